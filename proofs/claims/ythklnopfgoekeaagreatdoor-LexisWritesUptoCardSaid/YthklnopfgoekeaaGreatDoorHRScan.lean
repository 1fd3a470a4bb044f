/- Texts of one kind, joined by wip/merge.py: HOne1, HOne2, HOne3, HOne4, HOne5, HOne6, HOne7, HOne8. -/
import Derived.Test.YthklnopfgoekeaaGreatDoorHScan
import Derived.Test.YthklnopfgoekeaaGreatDoorX5
import Derived.Lib.LazyBuf
namespace Go.Proofs.YthklnopfgoekeaaGreatDoor.X
section
section
open Go.RowKit Go.Proofs.YthklnopfgoekeaaGreatDoorW.PrintWords Go.Proofs.YthklnopfgoekeaaGreatDoorW.PrintLast Go.Proofs.YthklnopfgoekeaaGreatDoorW.PrintMore
set_option linter.unusedVariables false

/-! ### bytes -/
def notEndB (c : Int) : Bool := !endC (classI c)
theorem bt_byte (s : ByteArray) (i : Int) : ∃ c : Nat, c < 256 ∧ bt s i = c := by
 have := bt_range s i
 exact ⟨(bt s i).toNat, by omega, by omega⟩
theorem bytes_all {P : Nat → Prop} [DecidablePred P] (h : ∀ c : Fin 256, P c.val) (c : Nat) (hc : c < 256) : P c := h ⟨c, hc⟩
theorem Digit_f (c : Int) : tribunalref06_Digit.f c = some (digitB c) := by
 unfold tribunalref06_Digit.f digitB
 by_cases h : c ≥ 48
 ·rw [if_pos h]; simp [h]
 ·rw [if_neg h]; simp [h]
theorem HexDigit_n : ∀ c : Fin 256, tribunalref06_HexDigit.f (c.val : Int) = some (hexB c.val) := by decide +kernel
theorem Blank_n : ∀ c : Fin 256, tribunalref06_Blank.f (c.val : Int) = some (classI c.val == 1) := by decide +kernel
theorem Inner_n : ∀ c : Fin 256, tribunalref06_Inner.f (c.val : Int) = some (printB c.val) := by decide +kernel
theorem ends_n : ∀ c : Fin 256, tribunalref06_ends.f (c.val : Int) = some (endC (classI c.val)) := by decide +kernel
theorem simple_n : ∀ c : Fin 256, tribunalref04_SimpleByte.f 20 (c.val : Int) = some (simpleB c.val) := by decide +kernel
theorem HexDigit_f (s : ByteArray) (i : Int) : tribunalref06_HexDigit.f (bt s i) = some (hexB (bt s i)) := by
 obtain ⟨c, hc, e⟩ := bt_byte s i; rw [e]; exact HexDigit_n ⟨c, hc⟩
theorem Blank_f (s : ByteArray) (i : Int) : tribunalref06_Blank.f (bt s i) = some (classI (bt s i) == 1) := by
 obtain ⟨c, hc, e⟩ := bt_byte s i; rw [e]; exact Blank_n ⟨c, hc⟩
theorem Inner_f (s : ByteArray) (i : Int) : tribunalref06_Inner.f (bt s i) = some (printB (bt s i)) := by
 obtain ⟨c, hc, e⟩ := bt_byte s i; rw [e]; exact Inner_n ⟨c, hc⟩
theorem ends_f (s : ByteArray) (i : Int) : tribunalref06_ends.f (bt s i) = some (endC (classI (bt s i))) := by
 obtain ⟨c, hc, e⟩ := bt_byte s i; rw [e]; exact ends_n ⟨c, hc⟩
theorem simple_ev (s : ByteArray) (i : Int) : Ev (fun k => tribunalref04_SimpleByte.f k (bt s i)) (simpleB (bt s i)) := by
 obtain ⟨c, hc, e⟩ := bt_byte s i
 rw [e]
 exact Ev.of (fun k => tribunalref04_SimpleByte.mono _ k) (k := 20) (simple_n ⟨c, hc⟩)
/-! a byte of each class is no end -/
theorem digit_notEnd_n : ∀ c : Fin 256, digitB c.val = true → notEndB c.val = true := by decide +kernel
theorem simple_notEnd_n : ∀ c : Fin 256, simpleB c.val = true → notEndB c.val = true := by decide +kernel
theorem hex_notEnd_n : ∀ c : Fin 256, hexB c.val = true → notEndB c.val = true := by decide +kernel
theorem bin_notEnd_n : ∀ c : Fin 256, binB c.val = true → notEndB c.val = true := by decide +kernel
def Inside (p : Int → Bool) : Prop := ∀ (s : ByteArray) (i : Int), p (bt s i) = true → notEndB (bt s i) = true
theorem inside_of {p : Int → Bool} (h : ∀ c : Fin 256, p c.val = true → notEndB c.val = true) : Inside p := by
 intro s i
 obtain ⟨c, hc, e⟩ := bt_byte s i
 rw [e]
 exact h ⟨c, hc⟩
theorem digit_in : Inside digitB := inside_of digit_notEnd_n
theorem simple_in : Inside simpleB := inside_of simple_notEnd_n
theorem hex_in : Inside hexB := inside_of hex_notEnd_n
theorem bin_in : Inside binB := inside_of bin_notEnd_n
/-! ### pieces -/
theorem ev_round {α : Type} {g : Nat → Option α} {r : α} (f : Nat → Option α) (h : ∀ k, g (k + 1) = f k) (k : Ev f r) : Ev g r := Ev.step h k
theorem wrap_nat (i : Nat) (h : i ≤ 9223372036854775806) : wrap64 ((i : Int) + 1) = ((i + 1 : Nat) : Int) := by
 unfold wrap64
 omega
theorem bt_extract (s : ByteArray) (a b : Nat) (i : Nat) (h : a + i < b) (hb : b ≤ s.size) : bt (s.extract a b) (i : Int) = bt s ((a + i : Nat) : Int) := by
 have h1 : i < (s.extract a b).size := by rw [ByteArray.size_extract]; omega
 rw [← bt_nat _ i h1, ← bt_nat s (a + i) (by omega)]
 rw [ByteArray.getElem_extract]
theorem size_piece (s : ByteArray) (a b : Nat) (h : a ≤ b) (hb : b ≤ s.size) : (s.extract a b).size = b - a := by
 rw [ByteArray.size_extract]; omega
/-- Where the run ends: all before meets p, the next does not. -/
theorem runN_stop (p : Int → Bool) (s : ByteArray) : ∀ (d y : Nat), y + d = s.size → y + runK p s y d = s.size ∨ p (bt s ((y + runK p s y d : Nat) : Int)) = false
 | 0, y, h => .inl (by simp [runK]; omega)
 | d + 1, y, h => by
  rw [runK]
  split
  ·have := runN_stop p s d (y + 1) (by omega)
   rw [show y + (runK p s (y + 1) d + 1) = y + 1 + runK p s (y + 1) d from by omega]
   exact this
  ·rename_i hp
   right
   simpa using hp
theorem runN_next {p : Int → Bool} {s : ByteArray} {y : Nat} (hy : y ≤ s.size) : y + runN p s y = s.size ∨ p (bt s ((y + runN p s y : Nat) : Int)) = false := runN_stop p s _ y (by omega)
theorem runN_all' {p : Int → Bool} {s : ByteArray} {y j : Nat} (h : j < runN p s y) : p (bt s ((y + j : Nat) : Int)) = true := by
 have := runN_all h
 rw [Int.natCast_add]; exact this
/-- A run of bytes inside a piece is the run inside the text. -/
theorem run_inside {p : Int → Bool} (hp : Inside p) (s : ByteArray) (x : Nat) (hx : x ≤ s.size) (j : Nat) (hj : j ≤ runN notEndB s x) : runN p (s.extract x (x + runN notEndB s x)) j = runN p s (x + j) ∧ j + runN p s (x + j) ≤ runN notEndB s x := by
 have hm := runN_le notEndB s x hx
 have hle := runN_le p s (x + j) (by omega)
 have hin : j + runN p s (x + j) ≤ runN notEndB s x := by
  rcases Nat.lt_or_ge (runN notEndB s x) (j + runN p s (x + j)) with h | h
  ·exfalso
   have h1 : runN notEndB s x - j < runN p s (x + j) := by omega
   have h2 := hp _ _ (runN_all' h1)
   rw [show x + j + (runN notEndB s x - j) = x + runN notEndB s x from by omega] at h2
   rcases runN_next (p := notEndB) hx with h3 | h3
   ·omega
   ·rw [h3] at h2; cases h2
  ·exact h
 refine ⟨?_, hin⟩
 have hsz := size_piece s x (x + runN notEndB s x) (by omega) hm
 refine runN_eq (by rw [hsz]; omega) ?_ ?_
 ·intro i hi
  have := runN_all' hi
  rw [← Int.natCast_add, bt_extract s x _ (j + i) (by omega) hm, ← Nat.add_assoc]
  exact this
 ·rcases Nat.lt_or_ge (j + runN p s (x + j)) (runN notEndB s x) with h | h
  ·right
   rw [← Int.natCast_add, bt_extract s x _ _ (by omega) hm, ← Nat.add_assoc]
   rcases runN_next (p := p) (s := s) (y := x + j) (by omega) with h3 | h3
   ·omega
   ·exact h3
  ·left
   rw [hsz]; omega
end
section
open Go.RowKit Go.Proofs.YthklnopfgoekeaaGreatDoorW.PrintWords Go.Proofs.YthklnopfgoekeaaGreatDoorW.PrintLast Go.Proofs.YthklnopfgoekeaaGreatDoorW.PrintMore
set_option linter.unusedVariables false

def numEnd (t : ByteArray) : Bool := if t.toList = [48] then true else if t.size > 0 then bt t 0 != 48 else false
theorem numeral_loop (t : ByteArray) (ht : t.size ≤ 1048576) : ∀ (d i : Nat), i + d = t.size → Ev (fun k => tribunalref06_Numeral.l0 k t i) (if runK digitB t i d = d then numEnd t else false)
 | 0, i, h => by
  refine Ev.step (f := fun _ => some (if runK digitB t i 0 = 0 then numEnd t else false)) (fun k => ?_) (Ev.now _)
  simp only [tribunalref06_Numeral.l0]
  rw [if_neg (by omega)]
  simp only [runK, if_true, numEnd]
  split
  ·rfl
  ·split
   ·rw [if_pos (by omega)]
   ·rw [if_neg (by omega)]
 | d + 1, i, h => by
  cases hd : digitB (bt t i) with
  | true =>
   have ih := numeral_loop t ht d (i + 1) (by omega)
   have e : (if runK digitB t i (d + 1) = d + 1 then numEnd t else false) = (if runK digitB t (i + 1) d = d then numEnd t else false) := by
    rw [runK, if_pos hd]
    by_cases h : runK digitB t (i + 1) d = d
    ·rw [if_pos h, if_pos (by omega)]
    ·rw [if_neg h, if_neg (by omega)]
   rw [e]
   refine Ev.step (fun k => ?_) ih
   simp only [tribunalref06_Numeral.l0]
   rw [if_pos (by omega), if_pos (by omega), Digit_f, hd]
   simp only [Option.bind_some, if_true]
   rw [wrap_nat i (by omega)]
  | false =>
   have e : (if runK digitB t i (d + 1) = d + 1 then numEnd t else false) = false := by
    have h0 : runK digitB t i (d + 1) = 0 := by rw [runK, if_neg (by rw [hd]; decide)]
    rw [h0, if_neg (by omega)]
   rw [e]
   refine Ev.step (f := fun _ => some false) (fun k => ?_) (Ev.now _)
   simp only [tribunalref06_Numeral.l0]
   rw [if_pos (by omega), if_pos (by omega), Digit_f, hd]
   simp
theorem numeral_ev (t : ByteArray) (ht : t.size ≤ 1048576) : Ev (fun k => tribunalref06_Numeral.f k t) (if runN digitB t 0 = t.size then numEnd t else false) := by
 have := numeral_loop t ht t.size 0 (by omega)
 exact this
theorem bytes_loop (t : ByteArray) (ht : t.size ≤ 1048576) : ∀ (d i : Nat), i + d = t.size → Ev (fun k => tribunalref06_Bytes.l0 k t i) (if runK simpleB t i d = d then decide (0 < t.size) else false)
 | 0, i, h => by
  refine Ev.step (f := fun _ => some (if runK simpleB t i 0 = 0 then decide (0 < t.size) else false)) (fun k => ?_) (Ev.now _)
  simp only [tribunalref06_Bytes.l0]
  rw [if_neg (by omega)]
  simp only [runK, if_true]
  congr 1
  rw [decide_eq_decide]
  omega
 | d + 1, i, h => by
  cases hd : simpleB (bt t i) with
  | true =>
   have ih := bytes_loop t ht d (i + 1) (by omega)
   have e : (if runK simpleB t i (d + 1) = d + 1 then decide (0 < t.size) else false) = (if runK simpleB t (i + 1) d = d then decide (0 < t.size) else false) := by
    rw [runK, if_pos hd]
    by_cases h : runK simpleB t (i + 1) d = d
    ·rw [if_pos h, if_pos (by omega)]
    ·rw [if_neg h, if_neg (by omega)]
   rw [e]
   refine Ev.step (f := fun k => (tribunalref04_SimpleByte.f k (bt t i)).bind fun b => if b = true then tribunalref06_Bytes.l0 k t ((i + 1 : Nat) : Int) else some false) (fun k => ?_) ?_
   ·simp only [tribunalref06_Bytes.l0]
    rw [if_pos (by omega), if_pos (by omega), wrap_nat i (by omega)]
   ·refine Ev.bind (simple_ev t i) ?_
    rw [hd]
    simp only [if_true]
    exact ih
  | false =>
   have e : (if runK simpleB t i (d + 1) = d + 1 then decide (0 < t.size) else false) = false := by
    have h0 : runK simpleB t i (d + 1) = 0 := by rw [runK, if_neg (by rw [hd]; decide)]
    rw [h0, if_neg (by omega)]
   rw [e]
   refine Ev.step (f := fun k => (tribunalref04_SimpleByte.f k (bt t i)).bind fun b => if b = true then tribunalref06_Bytes.l0 k t ((i + 1 : Nat) : Int) else some false) (fun k => ?_) ?_
   ·simp only [tribunalref06_Bytes.l0]
    rw [if_pos (by omega), if_pos (by omega), wrap_nat i (by omega)]
   ·refine Ev.bind (simple_ev t i) ?_
    rw [hd]
    exact Ev.now _
theorem bytes_ev (t : ByteArray) (ht : t.size ≤ 1048576) : Ev (fun k => tribunalref06_Bytes.f k t) (if runN simpleB t 0 = t.size then decide (0 < t.size) else false) := bytes_loop t ht t.size 0 (by omega)
theorem all_round10 (t : ByteArray) (i k : Nat) (hi : i < t.size) (ht : t.size ≤ 1048576) : tribunalref06_all.l0 (k + 1) t 10 i = if digitB (bt t i) = true then tribunalref06_all.l0 k t 10 ((i + 1 : Nat) : Int) else some false := by
 simp only [tribunalref06_all.l0]
 rw [if_pos (by omega), if_pos trivial, if_pos (by omega), Digit_f]
 simp only [Option.bind_some]
 rw [wrap_nat i (by omega)]
 rfl
theorem all_round16 (t : ByteArray) (i k : Nat) (hi : i < t.size) (ht : t.size ≤ 1048576) : tribunalref06_all.l0 (k + 1) t 16 i = if hexB (bt t i) = true then tribunalref06_all.l0 k t 16 ((i + 1 : Nat) : Int) else some false := by
 simp only [tribunalref06_all.l0]
 rw [if_pos (by omega), if_neg (by decide), if_pos trivial, if_pos (by omega), HexDigit_f]
 simp only [Option.bind_some]
 rw [wrap_nat i (by omega)]
 rfl
theorem all_round2 (t : ByteArray) (i k : Nat) (hi : i < t.size) (ht : t.size ≤ 1048576) : tribunalref06_all.l0 (k + 1) t 2 i = if binB (bt t i) = true then tribunalref06_all.l0 k t 2 ((i + 1 : Nat) : Int) else some false := by
 simp only [tribunalref06_all.l0]
 rw [if_pos (by omega), if_neg (by decide), if_neg (by decide), if_pos trivial, if_pos (by omega), wrap_nat i (by omega)]
 unfold binB
 by_cases h1 : bt t i = 48
 ·rw [if_pos h1, if_pos (by simp [h1])]
 ·rw [if_neg h1]
  by_cases h2 : bt t i = 49
  ·rw [if_pos h2, if_pos (by simp [h2])]
  ·rw [if_neg h2, if_neg (by simp [h1, h2])]
theorem all_loop (b : Int) (p : Int → Bool) (t : ByteArray) (ht : t.size ≤ 1048576) (hr : ∀ i k : Nat, i < t.size → tribunalref06_all.l0 (k + 1) t b i = if p (bt t i) = true then tribunalref06_all.l0 k t b ((i + 1 : Nat) : Int) else some false) : ∀ (d i : Nat), i + d = t.size → Ev (fun k => tribunalref06_all.l0 k t b i) (if runK p t i d = d then decide (0 < t.size) else false)
 | 0, i, h => by
  refine Ev.step (f := fun _ => some (if runK p t i 0 = 0 then decide (0 < t.size) else false)) (fun k => ?_) (Ev.now _)
  simp only [tribunalref06_all.l0]
  rw [if_neg (by omega)]
  simp only [runK, if_true]
  congr 1
  rw [decide_eq_decide]
  omega
 | d + 1, i, h => by
  cases hd : p (bt t i) with
  | true =>
   have ih := all_loop b p t ht hr d (i + 1) (by omega)
   have e : (if runK p t i (d + 1) = d + 1 then decide (0 < t.size) else false) = (if runK p t (i + 1) d = d then decide (0 < t.size) else false) := by
    rw [runK, if_pos hd]
    by_cases h : runK p t (i + 1) d = d
    ·rw [if_pos h, if_pos (by omega)]
    ·rw [if_neg h, if_neg (by omega)]
   rw [e]
   refine Ev.step (fun k => ?_) ih
   rw [hr i k (by omega), if_pos hd]
  | false =>
   have e : (if runK p t i (d + 1) = d + 1 then decide (0 < t.size) else false) = false := by
    have h0 : runK p t i (d + 1) = 0 := by rw [runK, if_neg (by rw [hd]; decide)]
    rw [h0, if_neg (by omega)]
   rw [e]
   refine Ev.step (f := fun _ => some false) (fun k => ?_) (Ev.now _)
   rw [hr i k (by omega), if_neg (by rw [hd]; decide)]
theorem all10_ev (t : ByteArray) (ht : t.size ≤ 1048576) : Ev (fun k => tribunalref06_all.f k t 10) (if runN digitB t 0 = t.size then decide (0 < t.size) else false) := all_loop 10 digitB t ht (fun i k hi => all_round10 t i k hi ht) t.size 0 (by omega)
theorem all16_ev (t : ByteArray) (ht : t.size ≤ 1048576) : Ev (fun k => tribunalref06_all.f k t 16) (if runN hexB t 0 = t.size then decide (0 < t.size) else false) := all_loop 16 hexB t ht (fun i k hi => all_round16 t i k hi ht) t.size 0 (by omega)
theorem all2_ev (t : ByteArray) (ht : t.size ≤ 1048576) : Ev (fun k => tribunalref06_all.f k t 2) (if runN binB t 0 = t.size then decide (0 < t.size) else false) := all_loop 2 binB t ht (fun i k hi => all_round2 t i k hi ht) t.size 0 (by omega)
def notDotB (c : Int) : Bool := c != 46
theorem decimal_loop (t : ByteArray) (ht : t.size ≤ 1048576) : ∀ (d i : Nat), i + d = t.size → Ev (fun k => tribunalref06_Decimal.l0 k t i) (if runK notDotB t i d < d then (if runN digitB (t.extract 0 (i + runK notDotB t i d)) 0 = (t.extract 0 (i + runK notDotB t i d)).size then numEnd (t.extract 0 (i + runK notDotB t i d)) else false) && (if runN digitB (t.extract (i + runK notDotB t i d + 1) t.size) 0 = (t.extract (i + runK notDotB t i d + 1) t.size).size then decide (0 < (t.extract (i + runK notDotB t i d + 1) t.size).size) else false) else false)
 | 0, i, h => by
  rw [runK, if_neg (by omega)]
  refine Ev.step (f := fun _ => some false) (fun k => ?_) (Ev.now _)
  simp only [tribunalref06_Decimal.l0]
  rw [if_neg (by omega)]
 | d + 1, i, h => by
  by_cases hd : bt t i = 46
  ·have e : runK notDotB t i (d + 1) = 0 := by rw [runK, if_neg (by simp [notDotB, hd])]
   rw [e, if_pos (by omega), Nat.add_zero]
   have h1 : (t.extract 0 i).size ≤ 1048576 := by rw [ByteArray.size_extract]; omega
   have h2 : (t.extract (i + 1) t.size).size ≤ 1048576 := by rw [ByteArray.size_extract]; omega
   have hn := numeral_ev (t.extract 0 i) h1
   have ha := all10_ev (t.extract (i + 1) t.size) h2
   generalize (if runN digitB (t.extract 0 i) 0 = (t.extract 0 i).size then numEnd (t.extract 0 i) else false) = b1 at *
   generalize (if runN digitB (t.extract (i + 1) t.size) 0 = (t.extract (i + 1) t.size).size then decide (0 < (t.extract (i + 1) t.size).size) else false) = b2 at *
   refine Ev.step (f := fun k => (tribunalref06_Numeral.f k (t.extract 0 i)).bind fun b => if b = true then ((tribunalref06_all.f k (t.extract (i + 1) t.size) 10).bind fun c => some c) else some false) (fun k => ?_) ?_
   ·simp only [tribunalref06_Decimal.l0]
    rw [if_pos (by omega), if_pos (by omega), if_pos hd, if_pos (by omega), wrap_nat i (by omega), if_pos (by omega), if_pos (by omega)]
    rfl
   ·refine Ev.bind hn ?_
    cases b1 with
    | false => exact Ev.now _
    | true =>
     simp only [if_true, Bool.true_and]
     exact Ev.bind ha (Ev.now _)
  ·have ih := decimal_loop t ht d (i + 1) (by omega)
   have e : runK notDotB t i (d + 1) = runK notDotB t (i + 1) d + 1 := by rw [runK, if_pos (by simp [notDotB, hd])]
   rw [e, show i + (runK notDotB t (i + 1) d + 1) = i + 1 + runK notDotB t (i + 1) d from by omega]
   have e2 : (runK notDotB t (i + 1) d + 1 < d + 1) = (runK notDotB t (i + 1) d < d) := by simp
   simp only [e2]
   refine Ev.step (fun k => ?_) ih
   simp only [tribunalref06_Decimal.l0]
   rw [if_pos (by omega), if_pos (by omega), if_neg hd, wrap_nat i (by omega)]
end
section
open Go.RowKit Go.Proofs.YthklnopfgoekeaaGreatDoorW.PrintWords Go.Proofs.YthklnopfgoekeaaGreatDoorW.PrintLast Go.Proofs.YthklnopfgoekeaaGreatDoorW.PrintMore
set_option linter.unusedVariables false

theorem ba_ext {a b : ByteArray} (h : a.data.toList = b.data.toList) : a = b := by
 cases a; cases b
 simp only [ByteArray.mk.injEq]
 exact Array.toList_inj.1 h
theorem ba_append (a b : ByteArray) : (a ++ b).data.toList = a.data.toList ++ b.data.toList := by
 rw [ByteArray.data_append, Array.toList_append]
theorem ba_extract (s : ByteArray) (a b : Nat) : (s.extract a b).data.toList = (s.data.toList.drop a).take (b - a) := by
 rw [ByteArray.data_extract]
 simp [Array.toList_extract, List.extract_eq_take_drop]
theorem lowS_list (t : ByteArray) : (lowS t).data.toList = t.data.toList.map Lib.lowerB := rfl
theorem str_one (b : UInt8) : strOfNums [(b.toNat : Int)] = ⟨#[b]⟩ := Lib.Lz.strOfNums_map [b]
theorem lower_n : ∀ c : Fin 256, (if (65 : Int) ≤ c.val ∧ (c.val : Int) ≤ 90 then ((c.val : Int) + 32) % 256 else (c.val : Int)) = ((Lib.lowerB (UInt8.ofNat c.val)).toNat : Int) := by decide +kernel
theorem byte_at (t : ByteArray) (i : Nat) (hi : i < t.size) : ∃ b : UInt8, t.data.toList[i]? = some b ∧ bt t i = b.toNat := by
 have hl : i < t.data.toList.length := by simpa using hi
 exact ⟨_, List.getElem?_eq_getElem hl, bt_data t i _ (List.getElem?_eq_getElem hl)⟩
theorem small_str (b : UInt8) : (if (65 : Int) ≤ b.toNat ∧ (b.toNat : Int) ≤ 90 then strOfNums [((b.toNat : Int) + 32) % 256] else strOfNums [(b.toNat : Int)]) = ⟨#[Lib.lowerB b]⟩ := by
 have h := lower_n ⟨b.toNat, b.toNat_lt⟩
 have e : UInt8.ofNat b.toNat = b := by simp
 simp only [e] at h
 rw [← str_one, ← h]
 split <;> rfl
theorem small_loop (t : ByteArray) (ht : t.size ≤ 1048576) : ∀ (d i : Nat) (acc : ByteArray), i + d = t.size → acc.size ≤ i → Ev (fun k => tribunalref06_small.l0 k t acc i) (acc ++ lowS (t.extract i t.size))
 | 0, i, acc, h, ha => by
  have e : acc ++ lowS (t.extract i t.size) = acc := by
   apply ba_ext
   rw [ba_append, lowS_list, ba_extract]
   have : t.size - i = 0 := by omega
   rw [this]
   simp
  rw [e]
  refine Ev.step (f := fun _ => some acc) (fun k => ?_) (Ev.now _)
  simp only [tribunalref06_small.l0]
  rw [if_neg (by omega)]
 | d + 1, i, acc, h, ha => by
  obtain ⟨b, hb, hbt⟩ := byte_at t i (by omega)
  have hs := small_str b
  have ih := small_loop t ht d (i + 1) (acc ++ ⟨#[Lib.lowerB b]⟩) (by omega) (by rw [ByteArray.size_append]; show _ + 1 ≤ _; omega)
  have e : acc ++ ⟨#[Lib.lowerB b]⟩ ++ lowS (t.extract (i + 1) t.size) = acc ++ lowS (t.extract i t.size) := by
   apply ba_ext
   rw [ba_append, ba_append, ba_append, lowS_list, lowS_list, ba_extract, ba_extract, List.append_assoc]
   congr 1
   have hl : i < t.data.toList.length := by simp; omega
   have h2 : t.data.toList[i] = b := by rw [List.getElem?_eq_getElem hl] at hb; injection hb
   rw [List.drop_eq_getElem_cons hl, h2, show t.size - i = (t.size - (i + 1)) + 1 from by omega, List.take_succ_cons]
   rfl
  rw [e] at ih
  have hsz : acc.size + (⟨#[Lib.lowerB b]⟩ : ByteArray).size ≤ 9223372036854775807 := by show acc.size + 1 ≤ _; omega
  refine Ev.step (fun k => ?_) ih
  simp only [tribunalref06_small.l0]
  rw [if_pos (by omega), if_pos (by omega), hbt, wrap_nat i (by omega)]
  by_cases h1 : (b.toNat : Int) ≥ 65
  ·rw [if_pos h1]
   by_cases h2 : (b.toNat : Int) ≤ 90
   ·rw [if_pos ⟨h1, h2⟩] at hs
    rw [if_pos h2]
    simp only [Option.bind_some]
    rw [hs, if_pos hsz]
   ·rw [if_neg (fun h => h2 h.2)] at hs
    rw [if_neg h2]
    simp only [Option.bind_some]
    rw [hs, if_pos hsz]
  ·rw [if_neg (fun h => h1 h.1)] at hs
   rw [if_neg h1]
   simp only [Option.bind_some]
   rw [hs, if_pos hsz]
theorem small_ev (t : ByteArray) (ht : t.size ≤ 1048576) : Ev (fun k => tribunalref06_small.f k t) (lowS t) := by
 have := small_loop t ht t.size 0 ⟨#[]⟩ (by omega) (Nat.le_refl _)
 have e : (⟨#[]⟩ : ByteArray) ++ lowS (t.extract 0 t.size) = lowS t := by
  apply ba_ext
  rw [ba_append, lowS_list, lowS_list, ba_extract]
  rw [List.drop_zero, Nat.sub_zero, List.take_of_length_le (by rw [data_length]; omega)]
  rfl
 rw [e] at this
 exact this
/-- A decimal's two halves. -/
def decB (t : ByteArray) (i : Nat) : Bool := (if runN digitB (t.extract 0 i) 0 = (t.extract 0 i).size then numEnd (t.extract 0 i) else false) && (if runN digitB (t.extract (i + 1) t.size) 0 = (t.extract (i + 1) t.size).size then decide (0 < (t.extract (i + 1) t.size).size) else false)
theorem decimal_ev (t : ByteArray) (ht : t.size ≤ 1048576) : Ev (fun k => tribunalref06_Decimal.f k t) (if runN notDotB t 0 < t.size then decB t (runN notDotB t 0) else false) := by
 have := decimal_loop t ht t.size 0 (by omega)
 simp only [Nat.zero_add] at this
 exact this
theorem runN_zero {p : Int → Bool} {s : ByteArray} {y : Nat} (h : p (bt s y) = false) : runN p s y = 0 := by
 unfold runN
 cases hd : s.size - y with
 | zero => rfl
 | succ d => rw [runK, if_neg (by rw [h]; decide)]
theorem toList_bt (t : ByteArray) : t.toList = t.data.toList := by
 rw [ByteArray.toList_eq]
theorem numEnd_empty (t : ByteArray) (h : t.size = 0) : numEnd t = false := by
 unfold numEnd
 rw [if_neg, if_neg (by omega)]
 intro he
 have h1 : t.toList.length = 1 := by rw [he]; rfl
 rw [toList_bt, data_length] at h1
 omega
/-- No piece without a digit ahead is a numeral or a decimal. -/
theorem numeral_no (t : ByteArray) (ht : t.size ≤ 1048576) (h0 : 0 < t.size) (hd : digitB (bt t 0) = false) : Ev (fun k => tribunalref06_Numeral.f k t) false := by
 have := numeral_ev t ht
 rw [runN_zero (y := 0) (by simpa using hd), if_neg (by omega)] at this
 exact this
theorem decB_no (t : ByteArray) (i : Nat) (hi : i ≤ t.size) (hd : digitB (bt t 0) = false) : decB t i = false := by
 unfold decB
 have hsz : (t.extract 0 i).size = i := by rw [ByteArray.size_extract]; omega
 rcases Nat.eq_zero_or_pos i with h | h
 ·rw [numEnd_empty _ (by omega)]
  simp
 ·have : digitB (bt (t.extract 0 i) (0 : Nat)) = false := by
   rw [bt_extract t 0 i 0 (by omega) hi]; simpa using hd
  rw [runN_zero this, hsz, if_neg (by omega)]
  rfl
theorem decimal_no (t : ByteArray) (ht : t.size ≤ 1048576) (hd : digitB (bt t 0) = false) : Ev (fun k => tribunalref06_Decimal.f k t) false := by
 have := decimal_ev t ht
 split at this
 ·rename_i h
  rw [decB_no t _ (by omega) hd] at this
  exact this
 ·exact this
end
section
open Go.RowKit Go.Proofs.YthklnopfgoekeaaGreatDoorW.PrintWords Go.Proofs.YthklnopfgoekeaaGreatDoorW.PrintLast Go.Proofs.YthklnopfgoekeaaGreatDoorW.PrintMore
set_option linter.unusedVariables false

abbrev Bare := Int × ByteArray × Bool × Int × Int
def noTok : Bare := (0, ⟨#[]⟩, false, 0, 0)
theorem two_bytes (t : ByteArray) (h : 2 ≤ t.size) (a b : UInt8) : (t.extract 0 2).toList = [a, b] ↔ bt t 0 = a.toNat ∧ bt t 1 = b.toNat := by
 rw [toList_bt, ba_extract]
 obtain ⟨x, hx, e1⟩ := byte_at t 0 (by omega)
 obtain ⟨y, hy, e2⟩ := byte_at t 1 (by omega)
 have e1' : bt t 0 = x.toNat := e1
 have e2' : bt t 1 = y.toNat := e2
 rw [e1', e2']
 have hl : t.data.toList.length = t.size := data_length t
 have e : (t.data.toList.drop 0).take (2 - 0) = [x, y] := by
  rw [List.drop_zero, Nat.sub_zero]
  match hL : t.data.toList with
  | [] => rw [hL] at hl; simp at hl; omega
  | [_] => rw [hL] at hl; simp at hl; omega
  | u :: v :: r =>
   rw [hL] at hx hy
   simp at hx hy
   simp [hx, hy]
 rw [e]
 constructor
 ·intro h
  injection h with h1 h
  injection h with h2 _
  exact ⟨by rw [h1], by rw [h2]⟩
 ·rintro ⟨h1, h2⟩
  have h1' : x = a := UInt8.toNat_inj.1 (by omega)
  have h2' : y = b := UInt8.toNat_inj.1 (by omega)
  rw [h1', h2']
theorem j2_true (t : ByteArray) (h : 1 ≤ t.size) : Ev (fun k => tribunalref06_bare.j2 k t true) (9, t.extract 1 t.size, false, 0, 0) := by
 refine Ev.step (f := fun _ => some (9, t.extract 1 t.size, false, 0, 0)) (fun k => ?_) (Ev.now _)
 simp only [tribunalref06_bare.j2]
 rw [if_pos trivial, if_pos (by omega)]
theorem j2_digit (t : ByteArray) (h : 1 ≤ t.size) (hd : digitB (bt t 0) = true) : Ev (fun k => tribunalref06_bare.j2 k t false) noTok := by
 refine Ev.step (f := fun _ => some noTok) (fun k => ?_) (Ev.now _)
 simp only [tribunalref06_bare.j2]
 rw [if_neg (by decide), if_pos (by omega), Digit_f, hd]
 rfl
theorem j2_bytes (t : ByteArray) (h : 1 ≤ t.size) (ht : t.size ≤ 1048576) (hd : digitB (bt t 0) = false) : Ev (fun k => tribunalref06_bare.j2 k t false) (if runN simpleB t 0 = t.size then (8, t, false, 0, 0) else noTok) := by
 have hb := bytes_ev t ht
 refine Ev.step (f := fun k => (tribunalref06_Bytes.f k t).bind fun b => if b = true then some (8, t, false, 0, 0) else some noTok) (fun k => ?_) ?_
 ·simp only [tribunalref06_bare.j2]
  rw [if_neg (by decide), if_pos (by omega), Digit_f, hd]
  rfl
 ·refine Ev.bind hb ?_
  split
  ·rw [decide_eq_true (by omega)]
   exact Ev.now _
  ·exact Ev.now _
theorem j1_true (t : ByteArray) (h : 2 ≤ t.size) : Ev (fun k => tribunalref06_bare.j1 k t true) (6, t.extract 2 t.size, false, 0, 0) := by
 refine Ev.step (f := fun _ => some (6, t.extract 2 t.size, false, 0, 0)) (fun k => ?_) (Ev.now _)
 simp only [tribunalref06_bare.j1]
 rw [if_pos trivial, if_pos (by omega)]
theorem j1_other (t : ByteArray) (h : 1 ≤ t.size) (hc : bt t 0 ≠ 58) {r : Bare} (hr : Ev (fun k => tribunalref06_bare.j2 k t false) r) : Ev (fun k => tribunalref06_bare.j1 k t false) r := by
 refine Ev.step (fun k => ?_) hr
 simp only [tribunalref06_bare.j1]
 rw [if_neg (by decide), if_pos (by omega), if_neg hc]
theorem j1_colon (t : ByteArray) (h : 1 ≤ t.size) (ht : t.size ≤ 1048576) (hc : bt t 0 = 58) {r : Bare} (hr : Ev (fun k => tribunalref06_bare.j2 k t (if runN simpleB (t.extract 1 t.size) 0 = (t.extract 1 t.size).size then decide (0 < (t.extract 1 t.size).size) else false)) r) : Ev (fun k => tribunalref06_bare.j1 k t false) r := by
 have hb := bytes_ev (t.extract 1 t.size) (by rw [ByteArray.size_extract]; omega)
 refine Ev.step (f := fun k => (tribunalref06_Bytes.f k (t.extract 1 t.size)).bind fun b => tribunalref06_bare.j2 k t b) (fun k => ?_) (Ev.bind hb hr)
 simp only [tribunalref06_bare.j1]
 rw [if_neg (by decide), if_pos (by omega), if_pos hc, if_pos (by omega)]
theorem j0_true (t : ByteArray) (h : 2 ≤ t.size) (ht : t.size ≤ 1048576) : Ev (fun k => tribunalref06_bare.j0 k t true) (5, lowS (t.extract 2 t.size), false, 0, 0) := by
 have hb := small_ev (t.extract 2 t.size) (by rw [ByteArray.size_extract]; omega)
 refine Ev.step (f := fun k => (tribunalref06_small.f k (t.extract 2 t.size)).bind fun b => some (5, b, false, 0, 0)) (fun k => ?_) (Ev.bind hb (Ev.now _))
 simp only [tribunalref06_bare.j0]
 rw [if_pos trivial, if_pos (by omega)]
theorem j0_bin (t : ByteArray) (h : 2 < t.size) (ht : t.size ≤ 1048576) (h0 : bt t 0 = 35) (h1 : bt t 1 = 98) {r : Bare} (hr : Ev (fun k => tribunalref06_bare.j1 k t (if runN binB (t.extract 2 t.size) 0 = (t.extract 2 t.size).size then decide (0 < (t.extract 2 t.size).size) else false)) r) : Ev (fun k => tribunalref06_bare.j0 k t false) r := by
 have hb := all2_ev (t.extract 2 t.size) (by rw [ByteArray.size_extract]; omega)
 refine Ev.step (f := fun k => (tribunalref06_all.f k (t.extract 2 t.size) 2).bind fun b => tribunalref06_bare.j1 k t b) (fun k => ?_) (Ev.bind hb hr)
 simp only [tribunalref06_bare.j0]
 rw [if_neg (by decide), if_pos (by omega), if_pos (by decide), if_pos (by omega), if_pos ((two_bytes t (by omega) 35 98).2 ⟨h0, h1⟩)]
theorem j0_other (t : ByteArray) (hn : ¬ (2 < t.size ∧ bt t 0 = 35 ∧ bt t 1 = 98)) {r : Bare} (hr : Ev (fun k => tribunalref06_bare.j1 k t false) r) : Ev (fun k => tribunalref06_bare.j0 k t false) r := by
 refine Ev.step (fun k => ?_) hr
 simp only [tribunalref06_bare.j0]
 rw [if_neg (by decide)]
 by_cases h : 2 < t.size
 ·rw [if_pos (by omega), if_pos (by decide), if_pos (by omega), if_neg (fun he => hn ⟨h, (two_bytes t (by omega) 35 98).1 he⟩)]
 ·rw [if_neg (by omega)]
/-- The whole chain, Numeral and Decimal told. -/
theorem bare_num (t : ByteArray) (h : Ev (fun k => tribunalref06_Numeral.f k t) true) : Ev (fun k => tribunalref06_bare.f k t) (3, t, false, 0, 0) := Ev.bind h (Ev.now _)
theorem bare_dec (t : ByteArray) (h : Ev (fun k => tribunalref06_Numeral.f k t) false) (h2 : Ev (fun k => tribunalref06_Decimal.f k t) true) : Ev (fun k => tribunalref06_bare.f k t) (4, t, false, 0, 0) := Ev.bind h (Ev.bind h2 (Ev.now _))
theorem bare_hex (t : ByteArray) (h : Ev (fun k => tribunalref06_Numeral.f k t) false) (h2 : Ev (fun k => tribunalref06_Decimal.f k t) false) (hs : 2 < t.size) (ht : t.size ≤ 1048576) (h0 : bt t 0 = 35) (h1 : bt t 1 = 120) {r : Bare} (hr : Ev (fun k => tribunalref06_bare.j0 k t (if runN hexB (t.extract 2 t.size) 0 = (t.extract 2 t.size).size then decide (0 < (t.extract 2 t.size).size) else false)) r) : Ev (fun k => tribunalref06_bare.f k t) r := by
 have hb := all16_ev (t.extract 2 t.size) (by rw [ByteArray.size_extract]; omega)
 refine Ev.bind h (Ev.bind h2 ?_)
 refine Ev.congr (f := fun k => (tribunalref06_all.f k (t.extract 2 t.size) 16).bind fun b => tribunalref06_bare.j0 k t b) (fun k => ?_) (Ev.bind hb hr)
 rw [if_neg (by decide), if_pos (by omega), if_pos (by decide), if_pos (by omega), if_pos ((two_bytes t (by omega) 35 120).2 ⟨h0, h1⟩)]
theorem bare_other (t : ByteArray) (h : Ev (fun k => tribunalref06_Numeral.f k t) false) (h2 : Ev (fun k => tribunalref06_Decimal.f k t) false) (hn : ¬ (2 < t.size ∧ bt t 0 = 35 ∧ bt t 1 = 120)) {r : Bare} (hr : Ev (fun k => tribunalref06_bare.j0 k t false) r) : Ev (fun k => tribunalref06_bare.f k t) r := by
 refine Ev.bind h (Ev.bind h2 ?_)
 refine Ev.congr (fun k => ?_) hr
 rw [if_neg (by decide)]
 by_cases h : 2 < t.size
 ·rw [if_pos (by omega), if_pos (by decide), if_pos (by omega), if_neg (fun he => hn ⟨h, (two_bytes t (by omega) 35 120).1 he⟩)]
 ·rw [if_neg (by omega)]
/-! ### a piece of the text -/
theorem end_piece (s : ByteArray) (x n : Nat) (hx : x ≤ s.size) (hn : n ≤ runN notEndB s x) : endB s (x + n) = decide (n = runN notEndB s x) := by
 have hle := runN_le notEndB s x hx
 unfold endB
 rcases Nat.lt_or_ge n (runN notEndB s x) with h | h
 ·have := runN_all' h
  unfold notEndB at this
  rw [decide_eq_false (by omega), decide_eq_false (by omega)]
  simpa using this
 ·have e : n = runN notEndB s x := by omega
  rw [decide_eq_true e]
  rcases runN_next (p := notEndB) hx with h1 | h1
  ·rw [decide_eq_true (by omega)]; rfl
  ·rw [← e] at h1
   unfold notEndB at h1
   have h2 : endC (classI (bt s ((x + n : Nat) : Int))) = true := by simpa using h1
   rw [h2, Bool.or_true]
theorem extract_tail (s : ByteArray) (x m a : Nat) (hm : x + m ≤ s.size) (ha : a ≤ m) : (s.extract x (x + m)).extract a m = s.extract (x + a) (x + m) := by
 apply ba_ext
 rw [ba_extract, ba_extract, ba_extract, List.drop_take, List.drop_drop, List.take_take]
 congr 1
 omega
end
section
open Go.RowKit Go.Proofs.YthklnopfgoekeaaGreatDoorW.PrintWords Go.Proofs.YthklnopfgoekeaaGreatDoorW.PrintLast Go.Proofs.YthklnopfgoekeaaGreatDoorW.PrintMore
set_option linter.unusedVariables false

def bareOf (r : Rd) : Bare := match r.tok with
 | some (k, t, q) => (k, t, q, 0, 0)
 | none => noTok
/-- The piece's length. -/
def pieceN (s : ByteArray) (x : Nat) : Nat := runN notEndB s x
def piece (s : ByteArray) (x : Nat) : ByteArray := s.extract x (x + pieceN s x)
theorem bareOf_bareR (s : ByteArray) (x : Nat) (k : Int) (tx : ByteArray) (q : Bool) (n : Nat) (ok : Bool) (hx : x ≤ s.size) (hn : n ≤ pieceN s x) : bareOf (bareR s x k tx q n ok) = if ok = true ∧ n = pieceN s x then (k, tx, q, 0, 0) else noTok := by
 unfold bareR
 rw [end_piece s x n hx hn]
 unfold pieceN
 by_cases h : n = runN notEndB s x
 ·cases ok <;> simp [h, bareOf, noTok]
 ·cases ok <;> simp [h, bareOf, noTok]
/-- What is asked of a piece. -/
structure Piece (s : ByteArray) (x : Nat) (r : Rd) : Prop where
 ev : Ev (fun k => tribunalref06_bare.f k (piece s x)) (bareOf r)
 ok : r.err = 0 → (bareOf r).1 ≠ 0 ∧ r.n = pieceN s x ∧ ∃ k t q, r.tok = some (k, t, q)
 bad : r.err ≠ 0 → r.err = 62 ∧ (bareOf r).1 = 0
theorem piece_bareR {s : ByteArray} {x : Nat} {k : Int} {tx : ByteArray} {q : Bool} {n : Nat} {ok : Bool} (hx : x ≤ s.size) (hn : n ≤ pieceN s x) (hk : k ≠ 0)
 (hev : Ev (fun j => tribunalref06_bare.f j (piece s x)) (if ok = true ∧ n = pieceN s x then (k, tx, q, 0, 0) else noTok)) : Piece s x (bareR s x k tx q n ok) := by
 rw [← bareOf_bareR s x k tx q n ok hx hn] at hev
 refine ⟨hev, ?_, ?_⟩
 ·unfold bareR
  rw [end_piece s x n hx hn]
  split
  ·rename_i h
   intro _
   refine ⟨hk, ?_, _, _, _, rfl⟩
   simp at h
   exact h.2
  ·intro h; simp at h
 ·unfold bareR
  split
  ·intro h; exact absurd rfl h
  ·intro _; exact ⟨rfl, rfl⟩
theorem piece_size {s : ByteArray} {x : Nat} (hs : s.size ≤ 1048576) (hx : x < s.size) : (piece s x).size = pieceN s x := by
 have := runN_le notEndB s x (by omega)
 unfold piece pieceN
 rw [size_piece s x _ (by omega) this]
 omega
theorem piece_small {s : ByteArray} {x : Nat} (hs : s.size ≤ 1048576) (hx : x < s.size) : (piece s x).size ≤ 1048576 := by
 have := runN_le notEndB s x (by omega)
 rw [piece_size hs hx]
 unfold pieceN
 omega
theorem piece_bt {s : ByteArray} {x : Nat} (hs : s.size ≤ 1048576) (hx : x < s.size) (i : Nat) (hi : i < pieceN s x) : bt (piece s x) i = bt s ((x + i : Nat) : Int) := by
 have := runN_le notEndB s x (by omega)
 exact bt_extract s x _ i (by unfold pieceN at *; omega) (by unfold pieceN; omega)
theorem piece_run {s : ByteArray} {x : Nat} (hs : s.size ≤ 1048576) (hx : x < s.size) {p : Int → Bool} (hp : Inside p) (j : Nat) (hj : j ≤ pieceN s x) : runN p (piece s x) j = runN p s (x + j) ∧ j + runN p s (x + j) ≤ pieceN s x := run_inside hp s x (by omega) j hj
theorem piece_tail {s : ByteArray} {x : Nat} (hs : s.size ≤ 1048576) (hx : x < s.size) (a : Nat) (ha : a ≤ pieceN s x) : (piece s x).extract a (piece s x).size = s.extract (x + a) (x + pieceN s x) := by
 have := runN_le notEndB s x (by omega)
 rw [piece_size hs hx]
 exact extract_tail s x _ a (by unfold pieceN; omega) ha
/-- The run inside a tail of the piece. -/
theorem tail_run {s : ByteArray} {x : Nat} (hs : s.size ≤ 1048576) (hx : x < s.size) {p : Int → Bool} (hp : Inside p) (a : Nat) (ha : a ≤ pieceN s x) : runN p ((piece s x).extract a (piece s x).size) 0 = runN p s (x + a) ∧ ((piece s x).extract a (piece s x).size).size = pieceN s x - a := by
 have hm := runN_le notEndB s x (by omega)
 have hsz : ((piece s x).extract a (piece s x).size).size = pieceN s x - a := by
  rw [size_piece _ _ _ (by rw [piece_size hs hx]; exact ha) (Nat.le_refl _), piece_size hs hx]
 refine ⟨?_, hsz⟩
 obtain ⟨h1, h2⟩ := piece_run hs hx hp a ha
 have hle := runN_le p s (x + a) (by unfold pieceN at ha; omega)
 refine runN_eq (by rw [hsz]; omega) ?_ ?_
 ·intro i hi
  have hin : a + i < pieceN s x := by omega
  rw [← Int.natCast_add, Nat.zero_add, bt_extract (piece s x) a _ i (by rw [piece_size hs hx]; exact hin) (Nat.le_refl _), piece_bt hs hx _ hin]
  have := runN_all' (p := p) (s := s) (y := x + a) hi
  rw [← Nat.add_assoc]; exact this
 ·rcases Nat.lt_or_ge (a + runN p s (x + a)) (pieceN s x) with h | h
  ·right
   rw [← Int.natCast_add, Nat.zero_add, bt_extract (piece s x) a _ _ (by rw [piece_size hs hx]; exact h) (Nat.le_refl _), piece_bt hs hx _ h]
   rcases runN_next (p := p) (s := s) (y := x + a) (by unfold pieceN at ha; omega) with h3 | h3
   ·unfold pieceN at h; omega
   ·rw [← Nat.add_assoc]; exact h3
  ·left
   rw [hsz]; omega
theorem piece_pos {s : ByteArray} {x : Nat} (hs : s.size ≤ 1048576) (hx : x < s.size) (h : notEndB (bt s x) = true) : 1 ≤ pieceN s x := runK_pos h hx
theorem piece_first {s : ByteArray} {x : Nat} (hs : s.size ≤ 1048576) (hx : x < s.size) (h : 1 ≤ pieceN s x) : bt (piece s x) 0 = bt s x := piece_bt hs hx 0 (by omega)
theorem piece_nd {s : ByteArray} {x : Nat} (hs : s.size ≤ 1048576) (hx : x < s.size) (h1 : 1 ≤ pieceN s x) (hd : digitB (bt s x) = false) : Ev (fun k => tribunalref06_Numeral.f k (piece s x)) false ∧ Ev (fun k => tribunalref06_Decimal.f k (piece s x)) false := by
 have hf : digitB (bt (piece s x) 0) = false := by rw [piece_first hs hx h1]; exact hd
 exact ⟨numeral_no _ (piece_small hs hx) (by rw [piece_size hs hx]; omega) hf, decimal_no _ (piece_small hs hx) hf⟩
theorem cn5 : ∀ n : Fin 256, classI (n.val : Int) = 5 → (n.val : Int) = 35 ∧ digitB (n.val : Int) = false ∧ simpleB (n.val : Int) = false ∧ notEndB (n.val : Int) = true := by decide +kernel
theorem cls5 {c : Int} (hc : ∃ n : Nat, n < 256 ∧ c = n) (h : classI c = 5) : c = 35 ∧ digitB c = false ∧ simpleB c = false ∧ notEndB c = true := by
 obtain ⟨n, hn, rfl⟩ := hc
 exact cn5 ⟨n, hn⟩ h
theorem cn8 : ∀ n : Fin 256, classI (n.val : Int) = 8 → (n.val : Int) = 58 ∧ digitB (n.val : Int) = false ∧ simpleB (n.val : Int) = false ∧ notEndB (n.val : Int) = true := by decide +kernel
theorem cls8 {c : Int} (hc : ∃ n : Nat, n < 256 ∧ c = n) (h : classI c = 8) : c = 58 ∧ digitB c = false ∧ simpleB c = false ∧ notEndB c = true := by
 obtain ⟨n, hn, rfl⟩ := hc
 exact cn8 ⟨n, hn⟩ h
theorem cn9 : ∀ n : Fin 256, classI (n.val : Int) = 9 → digitB (n.val : Int) = false ∧ simpleB (n.val : Int) = true ∧ notEndB (n.val : Int) = true ∧ (n.val : Int) ≠ 35 ∧ (n.val : Int) ≠ 58 := by decide +kernel
theorem cls9 {c : Int} (hc : ∃ n : Nat, n < 256 ∧ c = n) (h : classI c = 9) : digitB c = false ∧ simpleB c = true ∧ notEndB c = true ∧ c ≠ 35 ∧ c ≠ 58 := by
 obtain ⟨n, hn, rfl⟩ := hc
 exact cn9 ⟨n, hn⟩ h
theorem cn4 : ∀ n : Fin 256, classI (n.val : Int) = 4 → digitB (n.val : Int) = true ∧ simpleB (n.val : Int) = true ∧ notEndB (n.val : Int) = true ∧ (n.val : Int) ≠ 35 ∧ (n.val : Int) ≠ 58 := by decide +kernel
theorem cls4 {c : Int} (hc : ∃ n : Nat, n < 256 ∧ c = n) (h : classI c = 4) : digitB c = true ∧ simpleB c = true ∧ notEndB c = true ∧ c ≠ 35 ∧ c ≠ 58 := by
 obtain ⟨n, hn, rfl⟩ := hc
 exact cn4 ⟨n, hn⟩ h
theorem cn6 : ∀ n : Fin 256, classI (n.val : Int) = 6 → (n.val : Int) = 34 := by decide +kernel
theorem cls6 {c : Int} (hc : ∃ n : Nat, n < 256 ∧ c = n) (h : classI c = 6) : c = 34 := by
 obtain ⟨n, hn, rfl⟩ := hc
 exact cn6 ⟨n, hn⟩ h
theorem cn7 : ∀ n : Fin 256, classI (n.val : Int) = 7 → (n.val : Int) = 124 := by decide +kernel
theorem cls7 {c : Int} (hc : ∃ n : Nat, n < 256 ∧ c = n) (h : classI c = 7) : c = 124 := by
 obtain ⟨n, hn, rfl⟩ := hc
 exact cn7 ⟨n, hn⟩ h
theorem cn0 : ∀ n : Fin 256, classI (n.val : Int) = 0 → simpleB (n.val : Int) = false ∧ (n.val : Int) ≠ 35 ∧ (n.val : Int) ≠ 58 ∧ (n.val : Int) ≠ 34 ∧ (n.val : Int) ≠ 124 ∧ (n.val : Int) ≠ 40 ∧ (n.val : Int) ≠ 41 := by decide +kernel
theorem cls0 {c : Int} (hc : ∃ n : Nat, n < 256 ∧ c = n) (h : classI c = 0) : simpleB c = false ∧ c ≠ 35 ∧ c ≠ 58 ∧ c ≠ 34 ∧ c ≠ 124 ∧ c ≠ 40 ∧ c ≠ 41 := by
 obtain ⟨n, hn, rfl⟩ := hc
 exact cn0 ⟨n, hn⟩ h
theorem cn3 : ∀ n : Fin 256, classI (n.val : Int) = 3 → (n.val : Int) = 40 ∨ (n.val : Int) = 41 := by decide +kernel
theorem cls3 {c : Int} (hc : ∃ n : Nat, n < 256 ∧ c = n) (h : classI c = 3) : c = 40 ∨ c = 41 := by
 obtain ⟨n, hn, rfl⟩ := hc
 exact cn3 ⟨n, hn⟩ h
theorem class_at (s : ByteArray) (i : Int) : ∃ n : Nat, n < 256 ∧ bt s i = n := bt_byte s i
theorem words_piece {s : ByteArray} {x : Nat} (hs : s.size ≤ 1048576) (hx : x < s.size) (hcl : classI (bt s x) = 9) : Piece s x (readOne s x) := by
 rw [one_9 hcl]
 obtain ⟨h1, h2, h3, h4, h5⟩ := cls9 (class_at s x) hcl
 have hpos := piece_pos hs hx h3
 have hsz := piece_size hs hx
 obtain ⟨hnum, hdec⟩ := piece_nd hs hx hpos h1
 have hf := piece_first hs hx hpos
 obtain ⟨hr1, hr2⟩ := piece_run hs hx simple_in 0 (by omega)
 rw [Nat.add_zero] at hr1 hr2
 unfold wordsR
 refine piece_bareR (by omega) (by omega) (by decide) ?_
 refine bare_other _ hnum hdec (fun h => h4 (by rw [← hf]; exact h.2.1)) (j0_other _ (fun h => h4 (by rw [← hf]; exact h.2.1)) (j1_other _ (by omega) (by rw [hf]; exact h5) ?_))
 have := j2_bytes (piece s x) (by omega) (piece_small hs hx) (by rw [hf]; exact h1)
 rw [hr1, hsz] at this
 by_cases h : runN simpleB s x = pieceN s x
 ·rw [if_pos h] at this
  rw [if_pos ⟨rfl, h⟩, h]
  exact this
 ·rw [if_neg h] at this
  rw [if_neg (fun hh => h hh.2)]
  exact this
theorem colons_piece {s : ByteArray} {x : Nat} (hs : s.size ≤ 1048576) (hx : x < s.size) (hcl : classI (bt s x) = 8) : Piece s x (readOne s x) := by
 rw [one_8 hcl]
 obtain ⟨h0, h1, h2, h3⟩ := cls8 (class_at s x) hcl
 have hpos := piece_pos hs hx h3
 have hsz := piece_size hs hx
 obtain ⟨hnum, hdec⟩ := piece_nd hs hx hpos h1
 have hf := piece_first hs hx hpos
 obtain ⟨hr1, hr2⟩ := piece_run hs hx simple_in 1 hpos
 obtain ⟨ht1, ht2⟩ := tail_run hs hx simple_in 1 hpos
 unfold colonsR
 refine piece_bareR (by omega) (by omega) (by decide) ?_
 refine bare_other _ hnum hdec (fun h => by rw [hf, h0] at h; omega) (j0_other _ (fun h => by rw [hf, h0] at h; omega) (j1_colon _ (by omega) (piece_small hs hx) (by rw [hf]; exact h0) ?_))
 rw [ht1, ht2]
 by_cases h : runN simpleB s (x + 1) = pieceN s x - 1
 ·rw [if_pos h]
  by_cases hp : 0 < pieceN s x - 1
  ·rw [decide_eq_true hp, if_pos ⟨by rw [h]; exact decide_eq_true hp, by omega⟩]
   have := j2_true (piece s x) (by omega)
   rw [piece_tail hs hx 1 hpos] at this
   rw [h, show x + 1 + (pieceN s x - 1) = x + pieceN s x from by omega]
   exact this
  ·rw [decide_eq_false hp, if_neg (fun hh => by rw [h] at hh; simp at hh; omega)]
   have := j2_bytes (piece s x) (by omega) (piece_small hs hx) (by rw [hf]; exact h1)
   rw [runN_zero (y := 0) (by have e : bt (piece s x) ((0 : Nat) : Int) = bt s x := hf; rw [e]; exact h2), if_neg (by omega)] at this
   exact this
 ·rw [if_neg h, if_neg (fun hh => by omega)]
  have := j2_bytes (piece s x) (by omega) (piece_small hs hx) (by rw [hf]; exact h1)
  rw [runN_zero (y := 0) (by have e : bt (piece s x) ((0 : Nat) : Int) = bt s x := hf; rw [e]; exact h2), if_neg (by omega)] at this
  exact this
end
section
open Go.RowKit Go.Proofs.YthklnopfgoekeaaGreatDoorW.PrintWords Go.Proofs.YthklnopfgoekeaaGreatDoorW.PrintLast Go.Proofs.YthklnopfgoekeaaGreatDoorW.PrintMore
set_option linter.unusedVariables false

theorem piece_two {s : ByteArray} {x : Nat} (hs : s.size ≤ 1048576) (hx : x + 1 < s.size) (h0 : notEndB (bt s x) = true) (h1 : notEndB (bt s ((x + 1 : Nat) : Int)) = true) : 2 ≤ pieceN s x := by
 have hpos := piece_pos hs (by omega) h0
 rcases Nat.lt_or_ge (pieceN s x) 2 with h | h
 ·exfalso
  have e : pieceN s x = 1 := by omega
  rcases runN_next (p := notEndB) (s := s) (y := x) (by omega) with h2 | h2
  ·unfold pieceN at e; omega
  ·unfold pieceN at e
   rw [e, h1] at h2
   cases h2
 ·exact h
theorem low_bin (s : ByteArray) (a n : Nat) (h : ∀ j, j < n → binB (bt s ((a + j : Nat) : Int)) = true) : lowS (s.extract a (a + n)) = s.extract a (a + n) := by
 apply ba_ext
 rw [lowS_list]
 have : ∀ b ∈ (s.extract a (a + n)).data.toList, Lib.lowerB b = b := by
  intro b hb
  obtain ⟨j, hj, e⟩ := List.getElem_of_mem hb
  have h1 := List.getElem?_eq_getElem hj
  rw [e] at h1
  obtain ⟨h2, h3⟩ := extract_at s a n j b h1
  have h4 := h j h2
  rw [Int.natCast_add, h3] at h4
  unfold binB at h4
  simp at h4
  have : b.toNat = 48 ∨ b.toNat = 49 := by omega
  rcases this with h5 | h5
  ·have : b = 48 := UInt8.toNat_inj.1 h5
   subst this; rfl
  ·have : b = 49 := UInt8.toNat_inj.1 h5
   subst this; rfl
 exact (List.map_congr_left this).trans (by simp)
theorem hash_none {s : ByteArray} {x : Nat} (hs : s.size ≤ 1048576) (hx : x < s.size) (hcl : classI (bt s x) = 5) : Ev (fun k => tribunalref06_bare.j1 k (piece s x) false) noTok := by
 obtain ⟨h0, h1, h2, h3⟩ := cls5 (class_at s x) hcl
 have hpos := piece_pos hs hx h3
 have hsz := piece_size hs hx
 have hf := piece_first hs hx hpos
 refine j1_other _ (by omega) (by rw [hf, h0]; decide) ?_
 have := j2_bytes (piece s x) (by omega) (piece_small hs hx) (by rw [hf]; exact h1)
 rw [runN_zero (y := 0) (by have e : bt (piece s x) ((0 : Nat) : Int) = bt s x := hf; rw [e]; exact h2), if_neg (by omega)] at this
 exact this
theorem none_piece {s : ByteArray} {x : Nat} (h : Ev (fun j => tribunalref06_bare.f j (piece s x)) noTok) : Piece s x ⟨62, none, 0⟩ := ⟨h, fun h => by simp at h, fun _ => ⟨rfl, rfl⟩⟩
theorem hashes_piece {s : ByteArray} {x : Nat} (hs : s.size ≤ 1048576) (hx : x < s.size) (hcl : classI (bt s x) = 5) : Piece s x (readOne s x) := by
 rw [one_5 hcl]
 obtain ⟨h0, h1, h2, h3⟩ := cls5 (class_at s x) hcl
 have hpos := piece_pos hs hx h3
 have hsz := piece_size hs hx
 obtain ⟨hnum, hdec⟩ := piece_nd hs hx hpos h1
 have hf := piece_first hs hx hpos
 have hno := hash_none hs hx hcl
 have hm := runN_le notEndB s x (by omega)
 have hm' : x + pieceN s x ≤ s.size := hm
 unfold hashesR
 by_cases hx2 : x + 1 < s.size
 ·rw [if_pos hx2]
  have e1 : ((x + 1 : Nat) : Int) = (x : Int) + 1 := by omega
  by_cases h120 : bt s ((x : Int) + 1) = 120
  ·rw [if_pos h120]
   have h2p := piece_two hs hx2 h3 (by rw [e1, h120]; decide)
   have hb1 : bt (piece s x) 1 = 120 := by
    have := piece_bt hs hx 1 (by omega)
    rw [e1, h120] at this
    exact this
   obtain ⟨ht1, ht2⟩ := tail_run hs hx hex_in 2 h2p
   obtain ⟨hr1, hr2⟩ := piece_run hs hx hex_in 2 h2p
   unfold hashK
   refine piece_bareR (by omega) (by omega) (by decide) ?_
   by_cases hm2 : 2 < pieceN s x
   ·refine bare_hex _ hnum hdec (by omega) (piece_small hs hx) (by rw [hf]; exact h0) hb1 ?_
    rw [ht1, ht2]
    by_cases h : runN hexB s (x + 2) = pieceN s x - 2
    ·rw [if_pos h, decide_eq_true (by omega), if_pos ⟨decide_eq_true (by omega), by omega⟩]
     have := j0_true (piece s x) (by omega) (piece_small hs hx)
     rw [piece_tail hs hx 2 h2p] at this
     rw [h, show x + 2 + (pieceN s x - 2) = x + pieceN s x from by omega]
     exact this
    ·rw [if_neg h, if_neg (fun hh => by omega)]
     exact j0_other _ (fun hh => by rw [hb1] at hh; omega) hno
   ·rw [if_neg (fun hh => by have := hh.1; simp at this; omega)]
    exact bare_other _ hnum hdec (fun hh => by omega) (j0_other _ (fun hh => by omega) hno)
  ·rw [if_neg h120]
   by_cases h98 : bt s ((x : Int) + 1) = 98
   ·rw [if_pos h98]
    have h2p := piece_two hs hx2 h3 (by rw [e1, h98]; decide)
    have hb1 : bt (piece s x) 1 = 98 := by
     have := piece_bt hs hx 1 (by omega)
     rw [e1, h98] at this
     exact this
    obtain ⟨ht1, ht2⟩ := tail_run hs hx bin_in 2 h2p
    obtain ⟨hr1, hr2⟩ := piece_run hs hx bin_in 2 h2p
    unfold hashK
    refine piece_bareR (by omega) (by omega) (by decide) ?_
    rw [low_bin s (x + 2) _ (fun j hj => runN_all' hj)]
    refine bare_other _ hnum hdec (fun hh => by rw [hb1] at hh; omega) ?_
    by_cases hm2 : 2 < pieceN s x
    ·refine j0_bin _ (by omega) (piece_small hs hx) (by rw [hf]; exact h0) hb1 ?_
     rw [ht1, ht2]
     by_cases h : runN binB s (x + 2) = pieceN s x - 2
     ·rw [if_pos h, decide_eq_true (by omega), if_pos ⟨decide_eq_true (by omega), by omega⟩]
      have := j1_true (piece s x) (by omega)
      rw [piece_tail hs hx 2 h2p] at this
      rw [h, show x + 2 + (pieceN s x - 2) = x + pieceN s x from by omega]
      exact this
     ·rw [if_neg h, if_neg (fun hh => by omega)]
      exact hno
    ·rw [if_neg (fun hh => by have := hh.1; simp at this; omega)]
     exact j0_other _ (fun hh => by omega) hno
   ·rw [if_neg h98]
    refine none_piece (bare_other _ hnum hdec (fun hh => ?_) (j0_other _ (fun hh => ?_) hno))
    ·have := piece_bt hs hx 1 (by omega)
     rw [e1] at this
     exact h120 (by rw [← this]; exact hh.2.2)
    ·have := piece_bt hs hx 1 (by omega)
     rw [e1] at this
     exact h98 (by rw [← this]; exact hh.2.2)
 ·rw [if_neg hx2]
  exact none_piece (bare_other _ hnum hdec (fun hh => by omega) (j0_other _ (fun hh => by omega) hno))
theorem numEnd_ok {s : ByteArray} {x n : Nat} (hn : 1 ≤ n) (hm : x + n ≤ s.size) : numEnd (s.extract x (x + n)) = numOk s x n := by
 have hsz := size_piece s x (x + n) (by omega) hm
 have hb : bt (s.extract x (x + n)) 0 = bt s x := bt_extract s x (x + n) 0 (by omega) hm
 unfold numEnd numOk
 by_cases h1 : n = 1
 ·rw [decide_eq_true h1, Bool.true_or]
  by_cases h : (s.extract x (x + n)).toList = [48]
  ·rw [if_pos h]
  ·rw [if_neg h, if_pos (by omega), hb]
   rw [bne_iff_ne]
   intro h48
   apply h
   obtain ⟨b, h2, h3⟩ := byte_at (s.extract x (x + n)) 0 (by omega)
   have h3' : bt (s.extract x (x + n)) 0 = b.toNat := h3
   rw [hb, h48] at h3'
   have : b = 48 := UInt8.toNat_inj.1 (by have : (48 : UInt8).toNat = 48 := rfl; omega)
   subst this
   rw [toList_bt]
   have hl := data_length (s.extract x (x + n))
   match hL : (s.extract x (x + n)).data.toList with
   | [] => rw [hL] at hl; simp at hl; omega
   | [u] => rw [hL] at h2; simp at h2; rw [h2]
   | u :: v :: r => rw [hL] at hl; simp at hl; omega
 ·rw [decide_eq_false h1, Bool.false_or, if_neg, if_pos (by omega), hb]
  intro h
  have hl : (s.extract x (x + n)).toList.length = 1 := by rw [h]; rfl
  rw [toList_bt, data_length] at hl
  omega
theorem extract_head (s : ByteArray) (x m i : Nat) (hm : x + m ≤ s.size) (hi : i ≤ m) : (s.extract x (x + m)).extract 0 i = s.extract x (x + i) := by
 apply ba_ext
 rw [ba_extract, ba_extract, ba_extract, List.drop_zero, List.take_take]
 congr 1
 omega
theorem dot_digit_n : ∀ c : Fin 256, digitB c.val = true → notDotB c.val = true := by decide +kernel
theorem dot_in {s : ByteArray} {i : Int} (h : digitB (bt s i) = true) : notDotB (bt s i) = true := by
 obtain ⟨c, hc, e⟩ := bt_byte s i
 rw [e] at h ⊢
 exact dot_digit_n ⟨c, hc⟩ h
theorem num_rest {s : ByteArray} {x : Nat} (hs : s.size ≤ 1048576) (hx : x < s.size) (hcl : classI (bt s x) = 4) (hnum : Ev (fun k => tribunalref06_Numeral.f k (piece s x)) false) (hdec : Ev (fun k => tribunalref06_Decimal.f k (piece s x)) false) : Ev (fun j => tribunalref06_bare.f j (piece s x)) noTok := by
 obtain ⟨h1, h2, h3, h4, h5⟩ := cls4 (class_at s x) hcl
 have hpos := piece_pos hs hx h3
 have hsz := piece_size hs hx
 have hf := piece_first hs hx hpos
 refine bare_other _ hnum hdec (fun hh => h4 (by rw [← hf]; exact hh.2.1)) (j0_other _ (fun hh => h4 (by rw [← hf]; exact hh.2.1)) (j1_other _ (by omega) (by rw [hf]; exact h5) ?_))
 exact j2_digit _ (by omega) (by rw [hf]; exact h1)
theorem numerals_piece {s : ByteArray} {x : Nat} (hs : s.size ≤ 1048576) (hx : x < s.size) (hcl : classI (bt s x) = 4) : Piece s x (readOne s x) := by
 rw [one_4 hcl]
 obtain ⟨h1, h2, h3, h4, h5⟩ := cls4 (class_at s x) hcl
 have hpos := piece_pos hs hx h3
 have hsz := piece_size hs hx
 have hf := piece_first hs hx hpos
 have hm : x + pieceN s x ≤ s.size := runN_le notEndB s x (by omega)
 obtain ⟨hr1, hr2⟩ := piece_run hs hx digit_in 0 (by omega)
 rw [Nat.add_zero] at hr1 hr2
 rw [Nat.zero_add] at hr2
 have hnp : 1 ≤ runN digitB s x := runK_pos h1 hx
 have hnum := numeral_ev (piece s x) (piece_small hs hx)
 have hdec := decimal_ev (piece s x) (piece_small hs hx)
 rw [hr1, hsz] at hnum
 rw [hsz] at hdec
 unfold numeralsR numR
 rw [show ((x : Int) + (runN digitB s x : Int)) = ((x + runN digitB s x : Nat) : Int) from by omega]
 generalize hn : runN digitB s x = n at *
 have hlt : ∀ j, j < n → digitB (bt s ((x + j : Nat) : Int)) = true := fun j hj => runN_all' (by omega)
 by_cases hnm : n = pieceN s x
 ·-- digits alone
  have hndot : ¬ (x + n < s.size ∧ bt s ((x + n : Nat) : Int) = 46) := by
   rintro ⟨h6, h7⟩
   rcases runN_next (p := notEndB) (s := s) (y := x) (by omega) with h8 | h8
   ·unfold pieceN at hnm; omega
   ·unfold pieceN at hnm
    rw [← hnm, h7] at h8
    revert h8; decide
  rw [if_neg hndot]
  rw [if_pos hnm] at hnum
  have hne : numEnd (piece s x) = numOk s x n := by unfold piece; rw [← hnm]; exact numEnd_ok hnp (by omega)
  rw [hne] at hnum
  refine piece_bareR (by omega) (by omega) (by decide) ?_
  cases hok : numOk s x n with
  | true =>
   rw [hok] at hnum
   rw [if_pos ⟨rfl, hnm⟩, hnm]
   exact bare_num _ hnum
  | false =>
   rw [hok] at hnum
   rw [if_neg (fun hh => by cases hh.1)]
   refine num_rest hs hx hcl hnum ?_
   have hdot : runN notDotB (piece s x) 0 = pieceN s x := by
    refine runN_eq (by omega) (fun j hj => ?_) (.inl (by omega))
    rw [show ((0 : Nat) : Int) + (j : Int) = (j : Int) from by omega, piece_bt hs hx j hj]
    exact dot_in (hlt j (by omega))
   rw [hdot, if_neg (by omega)] at hdec
   exact hdec
 ·rw [if_neg hnm] at hnum
  have hin : n < pieceN s x := by omega
  have hnext : digitB (bt s ((x + n : Nat) : Int)) = false := by
   rcases runN_next (p := digitB) (s := s) (y := x) (by omega) with h6 | h6
   ·rw [hn] at h6; omega
   ·rw [hn] at h6; exact h6
  by_cases h46 : bt s ((x + n : Nat) : Int) = 46
  ·rw [if_pos ⟨by omega, h46⟩]
   have hdot : runN notDotB (piece s x) 0 = n := by
    refine runN_eq (by omega) (fun j hj => ?_) (.inr ?_)
    ·rw [show ((0 : Nat) : Int) + (j : Int) = (j : Int) from by omega, piece_bt hs hx j (by omega)]
     exact dot_in (hlt j (by omega))
    ·rw [show ((0 : Nat) : Int) + (n : Int) = (n : Int) from by omega, piece_bt hs hx n hin, h46]
     decide
   obtain ⟨ht1, ht2⟩ := tail_run hs hx digit_in (n + 1) (by omega)
   obtain ⟨hq1, hq2⟩ := piece_run hs hx digit_in (n + 1) (by omega)
   rw [hdot, if_pos hin] at hdec
   unfold decB at hdec
   rw [ht1, ht2] at hdec
   have hh : (piece s x).extract 0 n = s.extract x (x + n) := extract_head s x _ n hm (by omega)
   rw [hh] at hdec
   have hsz2 : (s.extract x (x + n)).size = n := by rw [size_piece _ _ _ (by omega) (by omega)]; omega
   have hrun2 : runN digitB (s.extract x (x + n)) 0 = n := by
    refine runN_eq (by omega) (fun j hj => ?_) (.inl (by omega))
    rw [show ((0 : Nat) : Int) + (j : Int) = (j : Int) from by omega, bt_extract s x (x + n) j (by omega) (by omega)]
    exact hlt j hj
   rw [hrun2, hsz2, if_pos rfl, numEnd_ok hnp (by omega)] at hdec
   rw [show x + (n + 1) = x + n + 1 from by omega] at *
   generalize hk : runN digitB s (x + n + 1) = k at *
   refine piece_bareR (by omega) (by omega) (by decide) ?_
   by_cases hkm : k = pieceN s x - (n + 1)
   ·rw [if_pos hkm] at hdec
    by_cases hk0 : 0 < pieceN s x - (n + 1)
    ·rw [decide_eq_true hk0, Bool.and_true] at hdec
     cases hok : numOk s x n with
     | true =>
      rw [hok] at hdec
      rw [if_pos ⟨by rw [Bool.true_and]; exact decide_eq_true (by omega), by omega⟩, show x + (n + (1 + k)) = x + pieceN s x from by omega]
      exact bare_dec _ hnum hdec
     | false =>
      rw [hok] at hdec
      rw [if_neg (fun hh => by simp at hh)]
      exact num_rest hs hx hcl hnum hdec
    ·rw [decide_eq_false hk0, Bool.and_false] at hdec
     rw [if_neg (fun hh => by have := hh.1; simp at this; omega)]
     exact num_rest hs hx hcl hnum hdec
   ·rw [if_neg hkm, Bool.and_false] at hdec
    rw [if_neg (fun hh => by omega)]
    exact num_rest hs hx hcl hnum hdec
  ·rw [if_neg (fun hh => h46 hh.2)]
   refine piece_bareR (by omega) (by omega) (by decide) ?_
   rw [if_neg (fun hh => hnm hh.2)]
   refine num_rest hs hx hcl hnum ?_
   split at hdec
   ·rename_i hd
    -- the point stands behind a byte that is no digit
    have hdn : n < runN notDotB (piece s x) 0 := by
     rcases Nat.lt_or_ge n (runN notDotB (piece s x) 0) with h6 | h6
     ·exact h6
     ·exfalso
      rcases runN_next (p := notDotB) (s := piece s x) (y := 0) (by omega) with h7 | h7
      ·omega
      ·rw [Nat.zero_add, piece_bt hs hx _ hd] at h7
       rcases Nat.lt_or_ge (runN notDotB (piece s x) 0) n with h8 | h8
       ·rw [dot_in (hlt _ h8)] at h7; cases h7
       ·have : runN notDotB (piece s x) 0 = n := by omega
        rw [this] at h7
        unfold notDotB at h7
        exact h46 (by simpa using h7)
    generalize runN notDotB (piece s x) 0 = i at *
    have : decB (piece s x) i = false := by
     unfold decB
     have hh : (piece s x).extract 0 i = s.extract x (x + i) := extract_head s x _ i hm (by omega)
     have hsz2 : (s.extract x (x + i)).size = i := by rw [size_piece _ _ _ (by omega) (by omega)]; omega
     have hrun2 : runN digitB (s.extract x (x + i)) 0 = n := by
      refine runN_eq (by omega) (fun j hj => ?_) (.inr ?_)
      ·rw [show ((0 : Nat) : Int) + (j : Int) = (j : Int) from by omega, bt_extract s x (x + i) j (by omega) (by omega)]
       exact hlt j hj
      ·rw [show ((0 : Nat) : Int) + (n : Int) = (n : Int) from by omega, bt_extract s x (x + i) n (by omega) (by omega)]
       exact hnext
     rw [hh, hrun2, hsz2, if_neg (by omega), Bool.false_and]
    rw [this] at hdec
    exact hdec
   ·exact hdec
end
section
open Go.RowKit Go.Proofs.YthklnopfgoekeaaGreatDoorW.PrintWords Go.Proofs.YthklnopfgoekeaaGreatDoorW.PrintLast Go.Proofs.YthklnopfgoekeaaGreatDoorW.PrintMore
set_option linter.unusedVariables false

abbrev Btw := Int × ByteArray × Bool × Int × Int × Int
def noBtw : Btw := (0, ⟨#[]⟩, false, 0, 0, 0)
theorem extract_empty (s : ByteArray) (i : Nat) : (s.extract i i).data.toList = [] := by
 rw [ba_extract]; simp
theorem extract_join (s : ByteArray) (i j k : Nat) (h1 : i ≤ j) (h2 : j ≤ k) : s.extract i j ++ s.extract j k = s.extract i k := by
 apply ba_ext
 rw [ba_append, ba_extract, ba_extract, ba_extract]
 rw [show k - i = (j - i) + (k - j) from by omega, List.take_add, List.drop_drop, show i + (j - i) = j from by omega]
theorem btw_end (s : ByteArray) (mark : Int) (acc : ByteArray) (i : Nat) (h : ¬ i < s.size) : Ev (fun k => tribunalref06_between.l0 k s mark acc i) noBtw := by
 refine Ev.step (f := fun _ => some noBtw) (fun k => ?_) (Ev.now _)
 simp only [tribunalref06_between.l0]
 rw [if_neg (by omega)]
 rfl
theorem btw_enter (s : ByteArray) (mark : Int) (acc : ByteArray) (i : Nat) (h : i < s.size) (hs : s.size ≤ 1048576) (hno : ¬ (bt s i = mark ∧ mark = 34 ∧ i + 1 < s.size ∧ bt s ((i + 1 : Nat) : Int) = 34)) {r : Btw} (hr : Ev (fun k => tribunalref06_between.j1 k s mark acc i false) r) : Ev (fun k => tribunalref06_between.l0 k s mark acc i) r := by
 refine Ev.step (fun k => ?_) hr
 simp only [tribunalref06_between.l0]
 rw [if_pos (by omega), if_pos (by omega), wrap_nat i (by omega)]
 by_cases h1 : bt s i = mark
 ·rw [if_pos h1]
  by_cases h2 : mark = 34
  ·rw [if_pos h2]
   by_cases h3 : i + 1 < s.size
   ·rw [if_pos (by omega), if_pos (by omega)]
    rw [beq_eq_false_iff_ne.2 (fun h4 => hno ⟨h1, h2, h3, h4⟩)]
   ·rw [if_neg (by omega)]
  ·rw [if_neg h2]
 ·rw [if_neg h1]
theorem btw_double (s : ByteArray) (acc : ByteArray) (i : Nat) (hs : s.size ≤ 1048576) (h1 : bt s i = 34) (h2 : i + 1 < s.size) (h3 : bt s ((i + 1 : Nat) : Int) = 34) (ha : acc.size ≤ i) {r : Btw} (hr : Ev (fun k => tribunalref06_between.l0 k s 34 (acc ++ ⟨#[34]⟩) ((i + 2 : Nat) : Int)) r) : Ev (fun k => tribunalref06_between.l0 k s 34 acc i) r := by
 refine Ev.step (f := fun k => tribunalref06_between.j1 k s 34 acc i true) (fun k => ?_) ?_
 ·simp only [tribunalref06_between.l0]
  rw [if_pos (by omega), if_pos (by omega), if_pos h1, if_pos trivial, wrap_nat i (by omega), if_pos (by omega), if_pos (by omega), h3]
  rfl
 ·refine Ev.step (fun k => ?_) hr
  simp only [tribunalref06_between.j1]
  rw [if_pos trivial, if_pos (by omega), wrap_nat i (by omega), wrap_nat (i + 1) (by omega)]
theorem btw_close (s : ByteArray) (mark : Int) (acc : ByteArray) (i : Nat) (h : i < s.size) (hs : s.size ≤ 1048576) (h1 : bt s i = mark) : Ev (fun k => tribunalref06_between.j1 k s mark acc i false) (if mark = 34 then (7, acc, false, 0, 0, ((i + 1 : Nat) : Int)) else (8, acc, true, 0, 0, ((i + 1 : Nat) : Int))) := by
 refine Ev.step (f := fun _ => some (if mark = 34 then (7, acc, false, 0, 0, ((i + 1 : Nat) : Int)) else (8, acc, true, 0, 0, ((i + 1 : Nat) : Int)))) (fun k => ?_) (Ev.now _)
 simp only [tribunalref06_between.j1]
 rw [if_neg (by decide), if_pos (by omega), if_pos (by omega), if_pos h1, wrap_nat i (by omega)]
 split <;> rfl
theorem btw_bad (s : ByteArray) (mark : Int) (acc : ByteArray) (i : Nat) (h : i < s.size) (hs : s.size ≤ 1048576) (h1 : bt s i ≠ mark) (h2 : printB (bt s i) = false ∨ mark = 124 ∧ bt s i = 92) : Ev (fun k => tribunalref06_between.j1 k s mark acc i false) noBtw := by
 refine Ev.step (f := fun _ => some noBtw) (fun k => ?_) (Ev.now _)
 simp only [tribunalref06_between.j1]
 rw [if_neg (by decide), if_pos (by omega), if_pos (by omega), if_neg h1, Inner_f]
 simp only [Option.bind_some]
 rcases h2 with h2 | ⟨h2, h3⟩
 ·rw [h2, if_neg (by decide)]
  rfl
 ·split
  ·first | rfl | (rw [if_pos h2, if_pos h3]; rfl)
  ·rfl
theorem btw_step (s : ByteArray) (mark : Int) (acc : ByteArray) (i : Nat) (h : i < s.size) (hs : s.size ≤ 1048576) (ha : acc.size ≤ i) (h1 : bt s i ≠ mark) (h2 : printB (bt s i) = true) (h3 : mark = 124 → bt s i ≠ 92) {r : Btw} (hr : Ev (fun k => tribunalref06_between.l0 k s mark (acc ++ s.extract i (i + 1)) ((i + 1 : Nat) : Int)) r) : Ev (fun k => tribunalref06_between.j1 k s mark acc i false) r := by
 refine Ev.step (fun k => ?_) hr
 have hsz : acc.size + (s.extract i (i + 1)).size ≤ 9223372036854775807 := by rw [ByteArray.size_extract]; omega
 simp only [tribunalref06_between.j1]
 rw [if_neg (by decide), if_pos (by omega), if_pos (by omega), if_neg h1, Inner_f, h2]
 simp only [Option.bind_some, if_true]
 rw [wrap_nat i (by omega), Int.toNat_natCast, Int.toNat_natCast]
 by_cases h4 : mark = 124
 ·rw [if_pos h4, if_neg (h3 h4), if_pos (by omega), if_pos (by omega), if_pos hsz]
 ·rw [if_neg h4, if_pos (by omega), if_pos (by omega), if_pos hsz]
theorem bars_loop (s : ByteArray) (hs : s.size ≤ 1048576) : ∀ (d i : Nat) (acc : ByteArray), i + d = s.size → acc.size ≤ i → Ev (fun k => tribunalref06_between.l0 k s 124 acc i) (if i + runK barB s i d < s.size ∧ bt s ((i + runK barB s i d : Nat) : Int) = 124 then (8, acc ++ s.extract i (i + runK barB s i d), true, 0, 0, ((i + runK barB s i d + 1 : Nat) : Int)) else noBtw)
 | 0, i, acc, h, ha => by
  rw [if_neg (by rw [runK]; omega)]
  exact btw_end s _ acc i (by omega)
 | d + 1, i, acc, h, ha => by
  refine btw_enter s 124 acc i (by omega) hs (fun hh => by omega) ?_
  by_cases h1 : bt s i = 124
  ·have e : runK barB s i (d + 1) = 0 := by rw [runK, if_neg (by simp [barB, h1])]
   rw [e, Nat.add_zero, if_pos ⟨by omega, h1⟩]
   have e2 : acc ++ s.extract i i = acc := by apply ba_ext; rw [ba_append, extract_empty, List.append_nil]
   rw [e2]
   exact btw_close s 124 acc i (by omega) hs h1
  ·cases hb : barB (bt s i) with
   | true =>
    have e : runK barB s i (d + 1) = runK barB s (i + 1) d + 1 := by rw [runK, if_pos hb]
    unfold barB at hb
    simp at hb
    have ih := bars_loop s hs d (i + 1) (acc ++ s.extract i (i + 1)) (by omega) (by rw [ByteArray.size_append, ByteArray.size_extract]; omega)
    refine btw_step s 124 acc i (by omega) hs ha h1 hb.2 (fun _ => hb.1.2) ?_
    have hle := runK_le barB s d (i + 1)
    have e3 : acc ++ s.extract i (i + 1) ++ s.extract (i + 1) (i + 1 + runK barB s (i + 1) d) = acc ++ s.extract i (i + 1 + runK barB s (i + 1) d) := by
     rw [ByteArray.append_assoc, extract_join s i (i + 1) _ (by omega) (by omega)]
    rw [e3] at ih
    rw [e, show i + (runK barB s (i + 1) d + 1) = i + 1 + runK barB s (i + 1) d from by omega]
    exact ih
   | false =>
    have e : runK barB s i (d + 1) = 0 := by rw [runK, if_neg (by rw [hb]; decide)]
    rw [e, Nat.add_zero, if_neg (fun hh => h1 hh.2)]
    refine btw_bad s 124 acc i (by omega) hs h1 ?_
    unfold barB at hb
    by_cases h92 : bt s i = 92
    ·exact .inr ⟨rfl, h92⟩
    ·left
     simpa [h1, h92] using hb
theorem txt_empty (s : ByteArray) (i : Nat) (acc : List UInt8) : txt acc (s.extract i i) = acc := by
 unfold txt; rw [extract_empty, List.append_nil]
theorem runN_succ {p : Int → Bool} {s : ByteArray} {i : Nat} (h : i < s.size) (hp : p (bt s i) = true) : runN p s i = runN p s (i + 1) + 1 := by
 unfold runN
 rw [show s.size - i = (s.size - (i + 1)) + 1 from by omega, runK, if_pos hp]
theorem quoteGo_step {s : ByteArray} {d i : Nat} {acc : List UInt8} (h : i < s.size) (hp : quoteB (bt s i) = true) : quoteGo s (d + 1) i acc = quoteGo s (d + 1) (i + 1) (txt acc (s.extract i (i + 1))) := by
 have e := runN_succ h hp
 have hle := runN_le quoteB s (i + 1) (by omega)
 have e2 : txt acc (s.extract i (i + (runN quoteB s (i + 1) + 1))) = txt (txt acc (s.extract i (i + 1))) (s.extract (i + 1) (i + 1 + runN quoteB s (i + 1))) := by
  unfold txt
  rw [List.append_assoc, ← ba_append, extract_join s i (i + 1) _ (by omega) (by omega), show i + (runN quoteB s (i + 1) + 1) = i + 1 + runN quoteB s (i + 1) from by omega]
 rw [quoteGo, quoteGo, e, e2, show i + (runN quoteB s (i + 1) + 1) = i + 1 + runN quoteB s (i + 1) from by omega]
def btwOf (r : Option (List UInt8 × Nat)) : Btw := match r with
 | none => noBtw
 | some (l, j) => (7, strOf l, false, 0, 0, (j : Int))
theorem strOf_txt (acc : List UInt8) (t : ByteArray) : strOf (txt acc t) = strOf acc ++ t := by
 apply ba_ext; rw [ba_append]; rfl
theorem strOf_snoc (acc : List UInt8) : strOf (acc ++ [34]) = strOf acc ++ ⟨#[34]⟩ := by
 apply ba_ext; rw [ba_append]; rfl
theorem quotes_loop (s : ByteArray) (hs : s.size ≤ 1048576) (n : Nat) : ∀ (i d : Nat) (acc : List UInt8), s.size - i ≤ n → i ≤ s.size → acc.length ≤ i → s.size - i < d → Ev (fun k => tribunalref06_between.l0 k s 34 (strOf acc) i) (btwOf (quoteGo s d i acc)) := by
 induction n with
 | zero =>
  intro i d acc h1 h2 h3 h4
  have hi : i = s.size := by omega
  rw [quoteGo_out h4 rfl (by have := runN_le quoteB s i h2; omega)]
  exact btw_end s _ _ i (by omega)
 | succ n ih =>
  intro i d acc h1 h2 h3 h4
  have hsz : (strOf acc).size = acc.length := by unfold strOf; simp [ByteArray.size]
  obtain ⟨d, rfl⟩ : ∃ d', d = d' + 1 := ⟨d - 1, by omega⟩
  rcases Nat.lt_or_ge i s.size with hi | hi
  ·by_cases h34 : bt s i = 34
   ·have hrun : runN quoteB s i = 0 := runN_zero (by rw [h34]; decide)
    by_cases hd : i + 1 < s.size ∧ bt s ((i + 1 : Nat) : Int) = 34
    ·have e : quoteGo s (d + 1) i acc = quoteGo s d (i + 2) (acc ++ [34]) := by
      rw [quoteGo, hrun, Nat.add_zero, if_pos ⟨hi, h34⟩, if_pos hd, txt_empty]
     rw [e]
     refine btw_double s (strOf acc) i hs h34 hd.1 hd.2 (by omega) ?_
     rw [← strOf_snoc]
     exact ih (i + 2) d (acc ++ [34]) (by omega) (by omega) (by rw [List.length_append]; simp; omega) (by omega)
    ·have e : quoteGo s (d + 1) i acc = some (acc, i + 1) := by
      rw [quoteGo, hrun, Nat.add_zero, if_pos ⟨hi, h34⟩, if_neg hd, txt_empty]
     rw [e]
     refine btw_enter s 34 (strOf acc) i hi hs (fun hh => hd ⟨hh.2.2.1, hh.2.2.2⟩) ?_
     exact btw_close s 34 (strOf acc) i hi hs h34
   ·refine btw_enter s 34 (strOf acc) i hi hs (fun hh => h34 hh.1) ?_
    cases hq : printB (bt s i) with
    | true =>
     have hqb : quoteB (bt s i) = true := by unfold quoteB; rw [hq]; simp [h34]
     rw [quoteGo_step hi hqb]
     refine btw_step s 34 (strOf acc) i hi hs (by omega) h34 hq (fun h => by omega) ?_
     rw [← strOf_txt]
     exact ih (i + 1) (d + 1) (txt acc (s.extract i (i + 1))) (by omega) (by omega) (by rw [txt_length, ByteArray.size_extract]; omega) (by omega)
    | false =>
     have hqb : quoteB (bt s i) = false := by unfold quoteB; rw [hq]; simp
     have hrun : runN quoteB s i = 0 := runN_zero hqb
     have e : quoteGo s (d + 1) i acc = none := by
      rw [quoteGo, hrun, Nat.add_zero, if_neg (fun hh => h34 hh.2)]
     rw [e]
     exact btw_bad s 34 (strOf acc) i hi hs h34 (.inl hq)
  ·have hi' : i = s.size := by omega
   rw [quoteGo_out h4 rfl (by have := runN_le quoteB s i h2; omega)]
   exact btw_end s _ _ i (by omega)
end
section
open Go.RowKit Go.Proofs.YthklnopfgoekeaaGreatDoorW.PrintWords Go.Proofs.YthklnopfgoekeaaGreatDoorW.PrintLast Go.Proofs.YthklnopfgoekeaaGreatDoorW.PrintMore
set_option linter.unusedVariables false

abbrev One := Int × ByteArray × Bool × Int × Int × Int × Int
def oneOf (b : Bare) (y : Nat) : One := if b.1 = 0 then (b.1, b.2.1, b.2.2.1, b.2.2.2.1, b.2.2.2.2, 0, 62) else (b.1, b.2.1, b.2.2.1, b.2.2.2.1, b.2.2.2.2, (y : Int), 0)
theorem one_loop (s : ByteArray) (hs : s.size ≤ 1048576) (x : Nat) (b : Bare) : ∀ (d i : Nat), i + d = s.size → x ≤ i → Ev (fun k => tribunalref06_bare.f k (s.extract x (i + runK notEndB s i d))) b → Ev (fun k => tribunalref06_one.l0 k s x i) (oneOf b (i + runK notEndB s i d))
 | 0, i, h, hx, hb => by
  rw [runK, Nat.add_zero] at hb ⊢
  refine Ev.step (f := fun k => (tribunalref06_bare.f k (s.extract x i)).bind fun b => some (oneOf b i)) (fun k => ?_) (Ev.bind hb (Ev.now _))
  simp only [tribunalref06_one.l0]
  rw [if_neg (by omega), if_pos (by omega), if_pos (by omega), if_pos (by omega), Int.toNat_natCast, Int.toNat_natCast]
  congr 1
  funext b
  unfold oneOf
  split <;> rfl
 | d + 1, i, h, hx, hb => by
  cases he : endC (classI (bt s i)) with
  | true =>
   have hn : notEndB (bt s i) = false := by unfold notEndB; rw [he]; rfl
   have e : runK notEndB s i (d + 1) = 0 := by rw [runK, if_neg (by rw [hn]; decide)]
   rw [e, Nat.add_zero] at hb ⊢
   refine Ev.step (f := fun k => (tribunalref06_bare.f k (s.extract x i)).bind fun b => some (oneOf b i)) (fun k => ?_) (Ev.bind hb (Ev.now _))
   simp only [tribunalref06_one.l0]
   rw [if_pos (by omega), if_pos (by omega), ends_f, he]
   simp only [Option.bind_some, if_true]
   rw [if_pos (by omega), if_pos (by omega), if_pos (by omega), Int.toNat_natCast, Int.toNat_natCast]
   congr 1
   funext b
   unfold oneOf
   split <;> rfl
  | false =>
   have hn : notEndB (bt s i) = true := by unfold notEndB; rw [he]; rfl
   have e : runK notEndB s i (d + 1) = runK notEndB s (i + 1) d + 1 := by rw [runK, if_pos hn]
   rw [e, show i + (runK notEndB s (i + 1) d + 1) = i + 1 + runK notEndB s (i + 1) d from by omega] at hb ⊢
   have ih := one_loop s hs x b d (i + 1) (by omega) (by omega) hb
   refine Ev.step (fun k => ?_) ih
   simp only [tribunalref06_one.l0]
   rw [if_pos (by omega), if_pos (by omega), ends_f, he]
   simp only [Option.bind_some]
   rw [if_neg (by decide), wrap_nat i (by omega)]
theorem one_piece (s : ByteArray) (hs : s.size ≤ 1048576) (x : Nat) (hx : x < s.size) (b : Bare) (hb : Ev (fun k => tribunalref06_bare.f k (piece s x)) b) : Ev (fun k => tribunalref06_one.j1 k s x) (oneOf b (x + pieceN s x)) := by
 refine Ev.step (fun k => ?_) (one_loop s hs x b (s.size - x) x (by omega) (Nat.le_refl _) hb)
 rw [tribunalref06_one.j1]
/-- What 'one' tells, by readOne. -/
def Told (s : ByteArray) (x : Nat) (r : Rd) : Prop := ∃ (k1 : Int) (t1 : ByteArray) (q1 : Bool) (l1 c1 nx : Int), Ev (fun k => tribunalref06_one.f k s x) (k1, t1, q1, l1, c1, nx, r.err) ∧ (r.err = 0 → r.tok = some (k1, t1, q1) ∧ nx = ((x + r.n : Nat) : Int))
theorem told_piece {s : ByteArray} {x : Nat} {r : Rd} (hs : s.size ≤ 1048576) (hx : x < s.size) (h : Piece s x r) (h40 : bt s x ≠ 40) (h41 : bt s x ≠ 41) (h34 : bt s x ≠ 34) (h124 : bt s x ≠ 124) (hc : bt s x = 35 ∨ bt s x = 58 ∨ simpleB (bt s x) = true) : Told s x r := by
 have h1 := one_piece s hs x hx _ h.ev
 have h2 : Ev (fun k => tribunalref06_one.f k s x) (oneOf (bareOf r) (x + pieceN s x)) := by
  have hj : Ev (fun k => tribunalref06_one.j0 k s x (bt s x) false) (oneOf (bareOf r) (x + pieceN s x)) := by
   by_cases hc1 : bt s x = 35
   ·refine Ev.step (fun k => ?_) h1
    simp only [tribunalref06_one.j0]
    rw [if_neg (by decide), if_pos hc1]
   ·by_cases hc2 : bt s x = 58
    ·refine Ev.step (fun k => ?_) h1
     simp only [tribunalref06_one.j0]
     rw [if_neg (by decide), if_neg hc1, if_pos hc2]
    ·have hc3 : simpleB (bt s x) = true := by rcases hc with h | h | h; exact absurd h hc1; exact absurd h hc2; exact h
     refine Ev.step (f := fun k => (tribunalref04_SimpleByte.f k (bt s x)).bind fun b => if b = true then tribunalref06_one.j1 k s x else some (0, ⟨#[]⟩, false, 0, 0, 0, 60)) (fun k => ?_) ?_
     ·simp only [tribunalref06_one.j0]
      rw [if_neg (by decide), if_neg hc1, if_neg hc2]
     ·refine Ev.bind (simple_ev s x) ?_
      rw [hc3]
      exact h1
  refine Ev.congr (fun k => ?_) hj
  unfold tribunalref06_one.f
  rw [if_pos (by omega), if_pos (by omega), if_neg h40, if_neg h41, if_neg h34, beq_eq_false_iff_ne.2 h124]
 by_cases he : r.err = 0
 ·obtain ⟨h3, h4, k, t, q, h5⟩ := h.ok he
  have e : bareOf r = (k, t, q, 0, 0) := by unfold bareOf; rw [h5]
  refine ⟨k, t, q, 0, 0, ((x + pieceN s x : Nat) : Int), ?_, fun _ => ⟨h5, by rw [h4]⟩⟩
  rw [e] at h2 h3
  unfold oneOf at h2
  rw [if_neg h3] at h2
  rw [he]
  exact h2
 ·obtain ⟨h3, h4⟩ := h.bad he
  unfold oneOf at h2
  rw [if_pos h4] at h2
  exact ⟨_, _, _, _, _, _, by rw [h3]; exact h2, fun h => by omega⟩
theorem told_btw {s : ByteArray} {x : Nat} {r : Rd} (hs : s.size ≤ 1048576) (hx : x < s.size) (hc : bt s x = 34 ∨ bt s x = 124) (k1 : Int) (t1 : ByteArray) (q1 : Bool) (nx : Int)
 (hb : Ev (fun k => tribunalref06_between.f k s x) (k1, t1, q1, 0, 0, nx)) (h : (r.err = 0 ∧ k1 ≠ 0 ∧ r.tok = some (k1, t1, q1) ∧ nx = ((x + r.n : Nat) : Int)) ∨ (r.err = 61 ∧ k1 = 0)) : Told s x r := by
 have h1 : Ev (fun k => tribunalref06_one.j0 k s x (bt s x) true) (k1, t1, q1, 0, 0, if k1 = 0 then 0 else nx, if k1 = 0 then 61 else 0) := by
  refine Ev.step (f := fun k => (tribunalref06_between.f k s x).bind fun b => if b.1 = 0 then some (b.1, b.2.1, b.2.2.1, b.2.2.2.1, b.2.2.2.2.1, 0, 61) else some (b.1, b.2.1, b.2.2.1, b.2.2.2.1, b.2.2.2.2.1, b.2.2.2.2.2, 0)) (fun k => ?_) (Ev.bind hb ?_)
  ·simp only [tribunalref06_one.j0]
   rw [if_pos trivial]
  ·by_cases h0 : k1 = 0
   ·simp only [h0, if_true]; exact Ev.now _
   ·simp only [h0, if_false]; exact Ev.now _
 have h2 : Ev (fun k => tribunalref06_one.f k s x) (k1, t1, q1, 0, 0, if k1 = 0 then 0 else nx, if k1 = 0 then 61 else 0) := by
  refine Ev.congr (fun k => ?_) h1
  unfold tribunalref06_one.f
  rw [if_pos (by omega), if_pos (by omega), if_neg (by omega), if_neg (by omega)]
  rcases hc with hc | hc
  ·rw [if_pos hc]
  ·rw [if_neg (by omega), beq_iff_eq.2 hc]
 rcases h with ⟨h3, h4, h5, h6⟩ | ⟨h3, h4⟩
 ·rw [if_neg h4, if_neg h4] at h2
  exact ⟨k1, t1, q1, 0, 0, nx, by rw [h3]; exact h2, fun _ => ⟨h5, h6⟩⟩
 ·rw [if_pos h4, if_pos h4] at h2
  exact ⟨k1, t1, q1, 0, 0, 0, by rw [h3]; exact h2, fun h => by omega⟩
theorem between_ev {s : ByteArray} {x : Nat} (hs : s.size ≤ 1048576) (hx : x < s.size) {r : Btw} (h : Ev (fun k => tribunalref06_between.l0 k s (bt s x) ⟨#[]⟩ ((x + 1 : Nat) : Int)) r) : Ev (fun k => tribunalref06_between.f k s x) r := by
 refine Ev.congr (fun k => ?_) h
 unfold tribunalref06_between.f
 rw [if_pos (by omega), if_pos (by omega), wrap_nat x (by omega)]
/-- One piece: the reference's answer is the program's. -/
theorem one_told {s : ByteArray} {x : Nat} (hs : s.size ≤ 1048576) (hx : x < s.size) (h1 : classI (bt s x) ≠ 1) (h2 : classI (bt s x) ≠ 2) : Told s x (readOne s x) := by
 rcases class_cases (bt s x) with hcl | hcl | hcl | hcl | hcl | hcl | hcl | hcl | hcl | hcl
 ·-- no token begins with it
  obtain ⟨a1, a2, a3, a4, a5, a6, a7⟩ := cls0 (class_at s x) hcl
  rw [one_0 hcl]
  refine ⟨0, ⟨#[]⟩, false, 0, 0, 0, ?_, fun h => by simp at h⟩
  have hj : Ev (fun k => tribunalref06_one.j0 k s x (bt s x) false) (0, ⟨#[]⟩, false, 0, 0, 0, 60) := by
   refine Ev.step (f := fun k => (tribunalref04_SimpleByte.f k (bt s x)).bind fun b => if b = true then tribunalref06_one.j1 k s x else some (0, ⟨#[]⟩, false, 0, 0, 0, 60)) (fun k => ?_) ?_
   ·simp only [tribunalref06_one.j0]
    rw [if_neg (by decide), if_neg a2, if_neg a3]
   ·refine Ev.bind (simple_ev s x) ?_
    rw [a1]
    exact Ev.now _
  refine Ev.congr (fun k => ?_) hj
  unfold tribunalref06_one.f
  rw [if_pos (by omega), if_pos (by omega), if_neg a6, if_neg a7, if_neg a4, beq_eq_false_iff_ne.2 a5]
 ·exact absurd hcl h1
 ·exact absurd hcl h2
 ·rw [one_3 hcl]
  unfold bracketsR
  rcases cls3 (class_at s x) hcl with h40 | h41
  ·rw [if_neg (by omega)]
   refine ⟨1, ⟨#[40]⟩, false, 0, 0, ((x + 1 : Nat) : Int), ?_, fun _ => ⟨rfl, rfl⟩⟩
   refine Ev.congr (f := fun _ => some (1, ⟨#[40]⟩, false, 0, 0, ((x + 1 : Nat) : Int), 0)) (fun k => ?_) (Ev.now _)
   unfold tribunalref06_one.f
   rw [if_pos (by omega), if_pos (by omega), if_pos h40, wrap_nat x (by omega)]
  ·rw [if_pos h41]
   refine ⟨2, ⟨#[41]⟩, false, 0, 0, ((x + 1 : Nat) : Int), ?_, fun _ => ⟨rfl, rfl⟩⟩
   refine Ev.congr (f := fun _ => some (2, ⟨#[41]⟩, false, 0, 0, ((x + 1 : Nat) : Int), 0)) (fun k => ?_) (Ev.now _)
   unfold tribunalref06_one.f
   rw [if_pos (by omega), if_pos (by omega), if_neg (by omega), if_pos h41, wrap_nat x (by omega)]
 ·obtain ⟨a1, a2, a3, a4, a5⟩ := cls4 (class_at s x) hcl
  refine told_piece hs hx (numerals_piece hs hx hcl) ?_ ?_ ?_ ?_ (.inr (.inr a2))
  all_goals (intro h; rw [h] at hcl; revert hcl; decide)
 ·obtain ⟨a1, a2, a3, a4⟩ := cls5 (class_at s x) hcl
  refine told_piece hs hx (hashes_piece hs hx hcl) ?_ ?_ ?_ ?_ (.inl a1)
  all_goals (intro h; rw [h] at hcl; revert hcl; decide)
 ·have h34 := cls6 (class_at s x) hcl
  rw [one_6 hcl]
  have hq := quotes_loop s hs s.size (x + 1) (s.size + 1) [] (by omega) (by omega) (by simp) (by omega)
  have hb := between_ev hs hx (r := btwOf (quoteGo s (s.size + 1) (x + 1) [])) (by rw [h34]; exact hq)
  unfold quotesR
  cases hg : quoteGo s (s.size + 1) (x + 1) [] with
  | none =>
   rw [hg] at hb
   exact told_btw hs hx (.inl h34) 0 ⟨#[]⟩ false 0 hb (.inr ⟨rfl, rfl⟩)
  | some p =>
   obtain ⟨l, j⟩ := p
   rw [hg] at hb
   have hp := quoteGo_place s _ _ _ _ _ hg
   refine told_btw hs hx (.inl h34) 7 (strOf l) false j hb (.inl ⟨rfl, by decide, rfl, ?_⟩)
   simp only
   omega
 ·have h124 := cls7 (class_at s x) hcl
  rw [one_7 hcl]
  have hq := bars_loop s hs (s.size - (x + 1)) (x + 1) ⟨#[]⟩ (by omega) (Nat.zero_le _)
  have hb := between_ev hs hx (by rw [h124]; exact hq)
  have er : runK barB s (x + 1) (s.size - (x + 1)) = runN barB s (x + 1) := rfl
  rw [er] at hb
  unfold barsR
  rw [show (x : Int) + 1 + (runN barB s (x + 1) : Int) = ((x + 1 + runN barB s (x + 1) : Nat) : Int) from by omega]
  by_cases hc : x + 1 + runN barB s (x + 1) < s.size ∧ bt s ((x + 1 + runN barB s (x + 1) : Nat) : Int) = 124
  ·rw [if_pos hc] at hb
   rw [if_pos hc]
   have e : (⟨#[]⟩ : ByteArray) ++ s.extract (x + 1) (x + 1 + runN barB s (x + 1)) = s.extract (x + 1) (x + 1 + runN barB s (x + 1)) := by
    apply ba_ext; rw [ba_append]; rfl
   rw [e] at hb
   refine told_btw hs hx (.inr h124) 8 _ true _ hb (.inl ⟨rfl, by decide, rfl, ?_⟩)
   simp only
   omega
  ·rw [if_neg hc] at hb
   rw [if_neg hc]
   exact told_btw hs hx (.inr h124) 0 ⟨#[]⟩ false 0 hb (.inr ⟨rfl, rfl⟩)
 ·obtain ⟨a1, a2, a3, a4⟩ := cls8 (class_at s x) hcl
  refine told_piece hs hx (colons_piece hs hx hcl) ?_ ?_ ?_ ?_ (.inr (.inl a1))
  all_goals (intro h; rw [h] at hcl; revert hcl; decide)
 ·obtain ⟨a1, a2, a3, a4, a5⟩ := cls9 (class_at s x) hcl
  refine told_piece hs hx (words_piece hs hx hcl) ?_ ?_ ?_ ?_ (.inr (.inr a2))
  all_goals (intro h; rw [h] at hcl; revert hcl; decide)
end
end
section
open Go.RowKit Go.Proofs.YthklnopfgoekeaaGreatDoorW.PrintWords Go.Proofs.YthklnopfgoekeaaGreatDoorW.PrintLast Go.Proofs.YthklnopfgoekeaaGreatDoorW.PrintMore
set_option linter.unusedVariables false

theorem lc_add (s : ByteArray) (x l c : Int) (a : Nat) : ∀ b : Nat, lc s x l c (a + b) = lc s (x + a) (lc s x l c a).1 (lc s x l c a).2 b
 | 0 => rfl
 | b + 1 => by
  rw [← Nat.add_assoc, lc, lc, lc_add s x l c a b]
  rw [show x + ((a + b : Nat) : Int) = x + (a : Int) + (b : Int) from by omega]
/-- Line and column of place x. -/
def lcAt (s : ByteArray) (x : Nat) : Int × Int := lc s 0 1 1 x
theorem lcAt_add (s : ByteArray) (x n : Nat) : lc s x (lcAt s x).1 (lcAt s x).2 n = lcAt s (x + n) := by
 unfold lcAt
 rw [lc_add s 0 1 1 x n, Int.zero_add]
theorem lcAt_nb {s : ByteArray} (hs : s.size ≤ 1048576) {x : Nat} (hx : x ≤ s.size) : Nb s x (lcAt s x).1 (lcAt s x).2 := by
 have h : Nb s 0 1 1 := ⟨hs, by omega, by omega, by omega, by omega, by omega, by omega⟩
 have := lc_bounds h x (by omega)
 rw [Int.zero_add] at this
 exact this
theorem lcAt_nl {s : ByteArray} {y : Nat} (h : (bt s y == 10) = true) : lcAt s (y + 1) = ((lcAt s y).1 + 1, 1) := by
 unfold lcAt
 exact lc_nl (by rw [Int.zero_add]; exact h)
theorem lcAt_no {s : ByteArray} {y : Nat} (h : (bt s y == 10) = false) : lcAt s (y + 1) = ((lcAt s y).1, (lcAt s y).2 + 1) := by
 unfold lcAt
 exact lc_no (by rw [Int.zero_add]; exact h)
theorem scanGo_next {s : ByteArray} {d x : Nat} {ts : List S37} (hx : x < s.size) (he : (readOne s x).err = 0) : scanGo s (d + 1) x (lcAt s x).1 (lcAt s x).2 ts = scanGo s d (x + (readOne s x).n) (lcAt s (x + (readOne s x).n)).1 (lcAt s (x + (readOne s x).n)).2 ((readOne s x).ts (lcAt s x).1 (lcAt s x).2 ts) := by
 rw [scanGo_more hx he, lcAt_add]
theorem blank_calls (s : ByteArray) (i : Int) (w : World) : Calls Tryz.prog 52 #[.int .u8 (bt s i)] w fun e w' => e = .returned (.bool (classI (bt s i) == 1)) ∧ Below w.heap.size w w' := (tribunalref06_Blank.calls _ _ w (Blank_f s i)).mono fun _ _ h => ⟨h.1, h.2.below⟩
set_option maxHeartbeats 8000000 in
set_option maxRecDepth 100000 in
theorem rscan_short (s : ByteArray) (hs : s.size ≤ 1048576) (r1 : List S37) (r2 r3 r4 : Int) (w : World) (h : scanGo s (s.size + 1) 0 1 1 [] = (r1, r2, r3, r4)) :
 Calls Tryz.prog 35 #[.string s] w fun e w' => ∃ v0_ : Value, e = .returned (.tuple #[v0_, .int .i64 r2, .int .i64 r3, .int .i64 r4]) ∧ Kd.R k37 37 w' w.heap.size (fun _ => True) v0_ r1 ∧ Below w.heap.size w w' := by
 have hg : decide (1048576 < (s.size : Int)) = false := decide_eq_false (by omega)
 have hg2 : decide (1048576 < s.size) = false := decide_eq_false (by omega)
 have HR0 := Aside0.mk h
 clear h
 go_enter Tryz.func35, Tryz.ntmps35
 go_wp2
 clear hg hg2
 go_loopg [6, 7, 8, 9, 10] (s.size + 1) (fun kq v6 v7 v8 v9 v10 wr => ∃ (x y : Nat) (l c : Int) (ts : List S37), x ≤ s.size ∧ y ≤ x ∧ v7 = .int .i64 l ∧ v8 = .int .i64 c ∧ v9 = .int .i64 y ∧ v10 = .int .i64 x ∧ Aside0 (lcAt s y = (l, c)) ∧ Aside0 (scanGo s kq x (lcAt s x).1 (lcAt s x).2 ts = (r1, r2, r3, r4)) ∧ Aside0 (s.size - x < kq) ∧ Aside0 (ts.length ≤ x) ∧ Aside0 (Kd.R k37 37 wr w.heap.size (fun _ => True) v6 ts) ∧ Aside0 (Below w.heap.size w wr))
 case atStart => exact ⟨0, 0, 1, 1, [], by omega, by omega, rfl, rfl, rfl, rfl, ⟨rfl⟩, HR0, ⟨by omega⟩, ⟨by simp⟩, ⟨Kd.R_nil _ _ _ _ _⟩, ⟨Below.refl _ _⟩⟩
 case round =>
  clear HR0
  obtain ⟨x, y, l, c, ts, hx, hy, rfl, rfl, rfl, rfl, HLC, HG, HK, HT, HR, HB⟩ := hrel
  by_cases hlt : x < s.size
  ·have HX := Aside0.mk (bt_nat s x hlt)
   obtain ⟨k1, rfl⟩ : ∃ k1, gk = k1 + 1 := ⟨gk - 1, by have := HK.out; omega⟩
   have HGO := Aside0.mk (readOne_goes s x hlt)
   cases hcl1 : (classI (bt s x) == 1) with
   | true =>
    have hro : readOne s x = blanksR s x := one_1 (by simpa using hcl1)
    have HG2 := Aside0.mk (scanGo_next hlt (d := k1) (ts := ts) (by rw [hro]; rfl))
    rw [hro] at HG2
    have HC1 := Aside0.mk hcl1
    clear hcl1 hro
    go_wp2_with fail
    rw [HX.out]
    refine (blank_calls s x _).mono ?_
    rintro e w1 ⟨rfl, hb1⟩
    rw [HC1.out]
    have HB1 := Aside0.mk (below_then HB.out HB.out.size hb1)
    have HR1 := Aside0.mk (Kd.R_below HR.out hb1)
    clear hb1
    go_wp2
    go_roundg k1
    case measure => have := HK.out; omega
    case rel => exact ⟨x + 1, y, l, c, ts, by omega, by omega, rfl, rfl, rfl, by go_num, HLC, ⟨by rw [← HG.out]; exact HG2.out.symm⟩, ⟨by have := HK.out; omega⟩, ⟨by have := HT.out; omega⟩, HR1, HB1⟩
   | false =>
    have HC1 := Aside0.mk hcl1
    clear hcl1
    cases h59 : (bt s x == 59) with
    | true =>
     have hcl2 : classI (bt s x) = 2 := by rw [beq_iff_eq.1 h59]; decide
     have hro : readOne s x = commentsR s x := one_2 hcl2
     have HG2 := Aside0.mk (scanGo_next hlt (d := k1) (ts := ts) (by rw [hro]; rfl))
     rw [hro] at HG2
     have hix := index_str s (x : Int) x rfl hlt
     clear hcl2 hro
     go_wp2_with fail
     refine (blank_calls s x _).mono ?_
     rintro e w1 ⟨rfl, hb1⟩
     rw [HC1.out]
     have HB1 := Aside0.mk (below_then HB.out HB.out.size hb1)
     have HR1 := Aside0.mk (Kd.R_below HR.out hb1)
     clear hb1
     go_wp2
     clear hix
     go_loop [10] (fun v10 => ∃ k : Nat, x + k ≤ s.size ∧ v10 = .int .i64 ((x : Int) + (k : Int)) ∧ Aside0 (∀ j, j < k → notNlB (bt s ((x : Int) + (j : Nat))) = true)) (fun v10 => s.size - (intOf v10).toNat)
     case atStart => exact ⟨0, by omega, by go_num, ⟨fun j hj => by omega⟩⟩
     case round =>
      obtain ⟨k, hk, rfl, HP⟩ := hrel
      have hfin : (x + k = s.size ∨ notNlB (bt s ((x : Int) + k)) = false) → Aside0 (scanGo s k1 (x + k) (lcAt s (x + k)).1 (lcAt s (x + k)).2 ts = (r1, r2, r3, r4) ∧ 1 ≤ k) := by
       intro hh
       have e : runN notNlB s x = k := runN_eq hk HP.out hh
       have h1 := HG2.out
       unfold commentsR at h1
       simp only [e] at h1
       refine ⟨by rw [← HG.out]; exact h1.symm, ?_⟩
       rw [← e]
       exact runK_pos (by rw [beq_iff_eq.1 h59]; decide) hlt
      by_cases hl2 : x + k < s.size
      ·have hix := index_str s ((x : Int) + (k : Int)) (x + k) (by omega) hl2
       cases h10 : (bt s ((x : Int) + (k : Int)) != 10) with
       | true =>
        have HP2 : Aside0 (∀ j, j < k + 1 → notNlB (bt s ((x : Int) + (j : Nat))) = true) := ⟨by
         intro j hj
         rcases Nat.lt_or_ge j k with h1 | h1
         ·exact HP.out j h1
         ·obtain rfl : j = k := by omega
          unfold notNlB
          exact h10⟩
        clear hfin
        go_wp2
        go_round
        case rel => exact ⟨k + 1, by omega, by go_num, HP2⟩
        case measure => simp [intOf]; omega
       | false =>
        have HF := hfin (.inr (by unfold notNlB; exact h10))
        clear hfin
        go_wp2
        go_roundg k1
        case measure => have := HK.out; omega
        case rel => exact ⟨x + k, y, l, c, ts, by omega, by omega, rfl, rfl, rfl, by go_num, HLC, ⟨HF.out.1⟩, ⟨by have := HK.out; have := HF.out.2; omega⟩, ⟨by have := HT.out; omega⟩, HR1, HB1⟩
      ·have HF := hfin (.inl (by omega))
       clear hfin
       go_wp2
       go_roundg k1
       case measure => have := HK.out; omega
       case rel => exact ⟨x + k, y, l, c, ts, by omega, by omega, rfl, rfl, rfl, by go_num, HLC, ⟨HF.out.1⟩, ⟨by have := HK.out; have := HF.out.2; omega⟩, ⟨by have := HT.out; omega⟩, HR1, HB1⟩
    | false =>
     obtain ⟨t1, t2, t3, t4, t5, nx, hev, htold⟩ := one_told hs hlt (by simpa using HC1.out) (fun h => by
      have := class2 h
      rw [this] at h59
      cases h59)
     obtain ⟨kq, hone⟩ := hev.rounds
     have HO := Aside0.mk hone
     have HTO := Aside0.mk htold
     clear hev htold hone
     have hix := index_str s (x : Int) x rfl hlt
     go_wp2_with fail
     refine (blank_calls s x _).mono ?_
     rintro e w1 ⟨rfl, hb1⟩
     rw [HC1.out]
     have HB1 := Aside0.mk (below_then HB.out HB.out.size hb1)
     have HR1 := Aside0.mk (Kd.R_below HR.out hb1)
     clear hb1
     go_wp2
     clear hix
     go_loop [7, 8, 9] (fun v7 v8 v9 => ∃ (y : Nat) (l c : Int), y ≤ x ∧ v7 = .int .i64 l ∧ v8 = .int .i64 c ∧ v9 = .int .i64 y ∧ Aside0 (lcAt s y = (l, c))) (fun v7 v8 v9 => x - (intOf v9).toNat)
     case atStart => exact ⟨y, l, c, hy, rfl, rfl, rfl, HLC⟩
     case round =>
      clear HLC hy
      obtain ⟨y, l, c, hy, rfl, rfl, rfl, HLC⟩ := hrel
      have hnb := lcAt_nb hs (x := y) (by omega)
      rw [HLC.out] at hnb
      obtain ⟨a1, a2, a3, a4, a5, a6, a7⟩ := hnb
      simp only at a4 a5 a6 a7
      by_cases hyx : y < x
      ·have hix := index_str s (y : Int) y rfl (by omega)
       cases h10 : (bt s y == 10) with
       | true =>
        have HL2 := Aside0.mk (lcAt_nl h10)
        rw [HLC.out] at HL2
        go_wp2
        go_round
        case rel => exact ⟨y + 1, l + 1, 1, by omega, rfl, rfl, by go_num, HL2⟩
        case measure => simp [intOf]; omega
       | false =>
        have HL2 := Aside0.mk (lcAt_no h10)
        rw [HLC.out] at HL2
        go_wp2
        go_round
        case rel => exact ⟨y + 1, l, c + 1, by omega, rfl, rfl, by go_num, HL2⟩
        case measure => simp [intOf]; omega
      ·obtain rfl : y = x := by omega
       by_cases he : (readOne s y).err = 0
       ·obtain ⟨htok, hnx⟩ := HTO.out he
        have hge : ((readOne s y).err != 0) = false := by rw [he]; rfl
        have hgp := HGO.out.pos he
        have HG2 := Aside0.mk (scanGo_next hlt (d := k1) (ts := ts) he)
        have hts : (readOne s y).ts (lcAt s y).1 (lcAt s y).2 ts = ts ++ [⟨t1, t2, t3, l, c⟩] := by unfold Rd.ts; rw [htok, HLC.out]
        rw [hts] at HG2
        have hlen : (ts.length + 1) * 48 ≤ 140737488355328 := by have := HT.out; omega
        subst hnx
        clear htok hts he
        generalize readOne s y = rr at *
        go_wp2_with (first | (go_at_call 53; refine (tribunalref06_one.calls kq s y t1 t2 t3 t4 t5 _ rr.err w1 HO.out).mono ?_; rintro e w2 ⟨rfl, hb2⟩; have HB2 := Aside0.mk (below_then HB1.out HB1.out.size hb2); have HR2 := Aside0.mk (Kd.R_below HR1.out hb2); clear hb2) | (at_builtin; refine Kd.R_append k37 (w0 := w2) (W := w2.alloc (.cells #[.int .i64 t1, .string t2, .bool t3, .int .i64 l, .int .i64 c] 37)) w.heap.size rfl (.tmp 72) (.tmp 74) 48 37 _ 48 rfl Tryz.underlying48 info37 rfl (by decide) (by decide) _ ts ⟨t1, t2, t3, l, c⟩ [.int .i64 t1, .string t2, .bool t3, .int .i64 l, .int .i64 c] (fun _ => True) (fun _ => False) rfl (by simp [Act.eval]) (k37_mkM _ _ _ _) (fun _ h => h.elim) (fun _ _ => trivial) (Kd.R_alloc HR2.out _) ((Below.refl _ _).alloc HB2.out.size _) (Nat.le_trans HB2.out.size (by simp)) hlen ?_; intro v1 w3 hR3 hb3 hg3 hat3; have HR3 := Aside0.mk hR3; have HB3 := Aside0.mk (HB2.out.trans hb3); clear hR3 hb3 hg3 hat3))
        go_roundg k1
        case measure => have := HK.out; omega
        case rel => exact ⟨y + rr.n, y, l, c, ts ++ [⟨t1, t2, t3, l, c⟩], by omega, by omega, rfl, rfl, rfl, by go_num, HLC, ⟨by rw [← HG.out]; exact HG2.out.symm⟩, ⟨by have := HK.out; omega⟩, ⟨by rw [List.length_append]; have := HT.out; simp; omega⟩, HR3, HB3⟩
       ·have hge : ((readOne s y).err != 0) = true := by rw [bne_iff_ne]; exact he
        have hgE := scanGo_bad HK.out hlt (l := (lcAt s y).1) (c := (lcAt s y).2) (ts := ts) he
        rw [HG.out, HLC.out] at hgE
        have HQ := Aside0.mk hgE
        clear hgE he
        generalize readOne s y = rr at *
        go_wp2_with (go_at_call 53; refine (tribunalref06_one.calls kq s y t1 t2 t3 t4 t5 nx rr.err w1 HO.out).mono ?_; rintro e w2 ⟨rfl, hb2⟩; have HB2 := Aside0.mk (below_then HB1.out HB1.out.size hb2); have HR2 := Aside0.mk (Kd.R_below HR1.out hb2); clear hb2)
        refine bodyPost_ret (results_list (rs := [.tmp 2, .tmp 3, .tmp 4, .tmp 5]) rfl (by simp) (.tmp (.tmp (.tmp (.tmp .nil))))) rfl ?_
        have hgE := HQ.out
        injection hgE with e1 hgE
        injection hgE with e2 hgE
        injection hgE with e3 e4
        subst e1 e2 e3 e4
        exact ⟨_, rfl, Kd.R_nil _ _ _ _ _, HB2.out.alloc HB2.out.size _⟩
  ·have hgE := scanGo_end HK.out hlt (l := (lcAt s x).1) (c := (lcAt s x).2) (ts := ts)
   rw [HG.out] at hgE
   have HQ := Aside0.mk hgE
   clear hgE
   go_wp2
   refine bodyPost_ret (results_list (rs := [.tmp 2, .tmp 3, .tmp 4, .tmp 5]) rfl (by simp) (.tmp (.tmp (.tmp (.tmp .nil))))) rfl ?_
   have hgE := HQ.out
   injection hgE with e1 hgE
   injection hgE with e2 hgE
   injection hgE with e3 e4
   subst e1 e2 e3 e4
   exact ⟨_, rfl, HR.out, HB.out⟩
set_option maxHeartbeats 8000000 in
set_option maxRecDepth 100000 in
theorem rscan_long (s : ByteArray) (hs : s.size > 1048576) (w : World) :
 Calls Tryz.prog 35 #[.string s] w fun e w' => e = .returned (.tuple #[.slice none 0 0, .int .i64 0, .int .i64 0, .int .i64 2]) ∧ w' = w := by
 have hg : decide (1048576 < (s.size : Int)) = true := decide_eq_true (by omega)
 have hg2 : decide (1048576 < s.size) = true := decide_eq_true (by omega)
 go_enter Tryz.func35, Tryz.ntmps35
 go_wp2
 refine bodyPost_ret (results_list (rs := [.tmp 2, .tmp 3, .tmp 4, .tmp 5]) rfl (by simp) (.tmp (.tmp (.tmp (.tmp .nil))))) rfl ?_
 exact ⟨rfl, rfl⟩
/-- The reference's Scan answers what the program's does. -/
def tribunalref06_Scan.f (a0 : ByteArray) : Option ((List (S37)) × Int × Int × Int) := some (scanAll a0)
theorem tribunalref06_Scan.calls (a0 : ByteArray) (r1 : List (S37)) (r2 : Int) (r3 : Int) (r4 : Int) (w : World) (h : tribunalref06_Scan.f a0 = some (r1, r2, r3, r4)) :
 Calls Tryz.prog 35 #[.string a0] w fun e w' => ∃ v0_ : Value, e = .returned (.tuple #[v0_, .int .i64 r2, .int .i64 r3, .int .i64 r4]) ∧ Kd.R k37 37 w' w.heap.size (fun _ => True) v0_ r1 ∧ Below w.heap.size w w' := by
 unfold tribunalref06_Scan.f scanAll at h
 injection h with h
 by_cases hs : a0.size > 1048576
 ·rw [if_pos hs] at h
  injection h with e1 h
  injection h with e2 h
  injection h with e3 e4
  subst e1 e2 e3 e4
  refine (rscan_long a0 hs w).mono ?_
  rintro e w' ⟨rfl, rfl⟩
  exact ⟨_, rfl, Kd.R_nil _ _ _ _ _, Below.refl _ _⟩
 ·rw [if_neg hs] at h
  exact rscan_short a0 (by omega) r1 r2 r3 r4 w h
end
end Go.Proofs.YthklnopfgoekeaaGreatDoor.X
