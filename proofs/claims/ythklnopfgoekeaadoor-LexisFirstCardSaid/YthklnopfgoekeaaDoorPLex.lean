/- One piece of a text, told on lists of bytes: what the scanner reads at a place depends on what lies from there on. -/
import Derived.Test.YthklnopfgoekeaaDoorHWrite
namespace Go.Proofs.YthklnopfgoekeaaDoor.X
open Go.RowKit Go.Proofs.YthklnopfgoekeaaDoorW.PrintWords Go.Proofs.YthklnopfgoekeaaDoorW.PrintLast Go.Proofs.YthklnopfgoekeaaDoorW.PrintMore
set_option linter.unusedVariables false

def by8 (c : UInt8) : Int := (c.toNat : Int)
def hd (l : List UInt8) : Int := match l with
  | [] => 0
  | c :: _ => by8 c
/-- How many bytes at the head meet p. -/
def spanN (p : Int → Bool) : List UInt8 → Nat
  | [] => 0
  | c :: r => if p (by8 c) = true then spanN p r + 1 else 0
/-- What lies from place x on. -/
def from_ (s : ByteArray) (x : Nat) : List UInt8 := s.data.toList.drop x
theorem from_length (s : ByteArray) (x : Nat) : (from_ s x).length = s.size - x := by
  unfold from_
  rw [List.length_drop]
  rfl
theorem from_cons {s : ByteArray} {x : Nat} (h : x < s.size) : ∃ c, from_ s x = c :: from_ s (x + 1) ∧ bt s x = by8 c := by
  have hl : x < s.data.toList.length := h
  refine ⟨s.data.toList[x], ?_, ?_⟩
  · unfold from_
    rw [List.drop_eq_getElem_cons hl]
  · rw [← bt_nat s x h]
    rfl
theorem from_nil {s : ByteArray} {x : Nat} (h : s.size ≤ x) : from_ s x = [] := by
  apply List.eq_nil_of_length_eq_zero
  rw [from_length]; omega
theorem from_drop (s : ByteArray) (x k : Nat) : (from_ s x).drop k = from_ s (x + k) := by
  unfold from_
  rw [List.drop_drop]
theorem bt_from (s : ByteArray) (x : Nat) : bt s x = hd (from_ s x) := by
  by_cases h : x < s.size
  · obtain ⟨c, h1, h2⟩ := from_cons h
    rw [h1, h2]; rfl
  · rw [from_nil (by omega)]
    unfold bt
    rw [dif_neg (by simpa using h)]
    rfl
theorem runK_span (p : Int → Bool) (s : ByteArray) : ∀ (d x : Nat), s.size - x = d → runK p s x d = spanN p (from_ s x)
  | 0, x, h => by rw [from_nil (by omega)]; rfl
  | d + 1, x, h => by
    obtain ⟨c, h1, h2⟩ := from_cons (s := s) (x := x) (by omega)
    rw [h1, runK, h2, spanN, runK_span p s d (x + 1) (by omega)]
theorem runN_span (p : Int → Bool) (s : ByteArray) (x : Nat) : runN p s x = spanN p (from_ s x) := runK_span p s _ x rfl
theorem extract_from (s : ByteArray) (x n : Nat) : s.extract x (x + n) = strOf ((from_ s x).take n) := by
  have e : (s.extract x (x + n)).data.toList = (from_ s x).take n := by
    rw [ByteArray.data_extract]
    unfold from_
    simp [Array.toList_extract, List.extract_eq_take_drop]
  unfold strOf
  rw [← e]
def endL (l : List UInt8) : Bool := match l with
  | [] => true
  | c :: _ => endC (classI (by8 c))
theorem endB_from (s : ByteArray) (x : Nat) : endB s x = endL (from_ s x) := by
  unfold endB
  by_cases h : x < s.size
  · obtain ⟨c, h1, h2⟩ := from_cons h
    rw [h1, h2, decide_eq_false (by omega), Bool.false_or]
    rfl
  · rw [from_nil (by omega), decide_eq_true (by omega), Bool.true_or]
    rfl
def bareL (l : List UInt8) (k : Int) (tx : List UInt8) (n : Nat) (ok : Bool) : Rd := if (ok && endL (l.drop n)) = true then ⟨0, some (k, strOf tx, false), n⟩ else ⟨62, none, 0⟩
theorem bare_L (s : ByteArray) (x : Nat) (k : Int) (tx : List UInt8) (n : Nat) (ok : Bool) : bareR s x k (strOf tx) false n ok = bareL (from_ s x) k tx n ok := by
  unfold bareR bareL
  rw [endB_from, from_drop]
def wordsL (l : List UInt8) : Rd := bareL l 8 (l.take (spanN simpleB l)) (spanN simpleB l) true
def commentsL (l : List UInt8) : Rd := ⟨0, none, spanN notNlB l⟩
def bracketsL (l : List UInt8) : Rd := if hd l = 41 then ⟨0, some (2, strOf [41], false), 1⟩ else ⟨0, some (1, strOf [40], false), 1⟩
def colonsL (l : List UInt8) : Rd := bareL l 9 ((l.drop 1).take (spanN simpleB (l.drop 1))) (spanN simpleB (l.drop 1) + 1) (decide (0 < spanN simpleB (l.drop 1)))
def barsL (l : List UInt8) : Rd := if hd (l.drop (1 + spanN barB (l.drop 1))) = 124 then ⟨0, some (8, strOf ((l.drop 1).take (spanN barB (l.drop 1))), true), spanN barB (l.drop 1) + 2⟩ else ⟨61, none, 0⟩
def numOkL (l : List UInt8) (n : Nat) : Bool := decide (n = 1) || hd l != 48
def numL (l : List UInt8) (n : Nat) (ok : Bool) : Rd :=
  if hd (l.drop n) = 46 then bareL l 4 (l.take (n + (1 + spanN digitB (l.drop (n + 1))))) (n + (1 + spanN digitB (l.drop (n + 1)))) (ok && decide (0 < spanN digitB (l.drop (n + 1))))
  else bareL l 3 (l.take n) n ok
def numeralsL (l : List UInt8) : Rd := numL l (spanN digitB l) (numOkL l (spanN digitB l))
def hashL (l : List UInt8) (k : Int) (n : Nat) : Rd := bareL l k (Lib.toLowerA ((l.drop 2).take n)) (n + 2) (decide (0 < n))
def hashesL (l : List UInt8) : Rd :=
  if hd (l.drop 1) = 120 then hashL l 5 (spanN hexB (l.drop 2))
  else if hd (l.drop 1) = 98 then hashL l 6 (spanN binB (l.drop 2))
  else ⟨62, none, 0⟩
/-- Behind the opening quote: the text, and how many bytes it takes with the closing one. -/
def quoteL : List UInt8 → Option (List UInt8 × Nat)
  | [] => none
  | c :: r => if c = 34 then (match r with
      | [] => some ([], 1)
      | d :: r2 => if d = 34 then (match quoteL r2 with
        | none => none
        | some (t, n) => some (34 :: t, n + 2)) else some ([], 1))
    else if printB (by8 c) = true then (match quoteL r with
      | none => none
      | some (t, n) => some (c :: t, n + 1)) else none
def quotesL (l : List UInt8) : Rd := match quoteL (l.drop 1) with
  | none => ⟨61, none, 0⟩
  | some (t, n) => ⟨0, some (7, strOf t, false), n + 1⟩
def readL (l : List UInt8) : Rd :=
  if classI (hd l) = 1 then ⟨0, none, 1⟩ else if classI (hd l) = 2 then commentsL l else if classI (hd l) = 3 then bracketsL l
  else if classI (hd l) = 4 then numeralsL l else if classI (hd l) = 5 then hashesL l else if classI (hd l) = 6 then quotesL l
  else if classI (hd l) = 7 then barsL l else if classI (hd l) = 8 then colonsL l else if classI (hd l) = 9 then wordsL l else ⟨60, none, 0⟩
theorem words_L (s : ByteArray) (x : Nat) : wordsR s x = wordsL (from_ s x) := by
  unfold wordsR wordsL
  rw [runN_span, extract_from, bare_L]
theorem colons_L (s : ByteArray) (x : Nat) : colonsR s x = colonsL (from_ s x) := by
  unfold colonsR colonsL
  rw [runN_span, extract_from, bare_L, from_drop]
theorem hd_pos {s : ByteArray} {x : Nat} (h : hd (from_ s x) ≠ 0) : x < s.size := by
  rcases Nat.lt_or_ge x s.size with h1 | h1
  · exact h1
  · rw [from_nil h1] at h; exact absurd rfl h
theorem bars_L (s : ByteArray) (x : Nat) : barsR s x = barsL (from_ s x) := by
  unfold barsR barsL
  rw [runN_span, extract_from, from_drop, from_drop]
  have e : (x : Int) + 1 + (spanN barB (from_ s (x + 1)) : Nat) = ((x + (1 + spanN barB (from_ s (x + 1))) : Nat) : Int) := by omega
  rw [e, bt_from]
  by_cases h : hd (from_ s (x + (1 + spanN barB (from_ s (x + 1))))) = 124
  · have := hd_pos (s := s) (x := x + (1 + spanN barB (from_ s (x + 1)))) (by rw [h]; decide)
    rw [if_pos ⟨by omega, h⟩, if_pos h]
  · rw [if_neg (fun k => h k.2), if_neg h]
theorem num_L (s : ByteArray) (x n : Nat) (ok : Bool) : numR s x n ok = numL (from_ s x) n ok := by
  unfold numR numL
  rw [from_drop, from_drop, extract_from, extract_from, bare_L, bare_L, runN_span]
  have e : (x : Int) + n = ((x + n : Nat) : Int) := by omega
  rw [e, bt_from]
  by_cases h : hd (from_ s (x + n)) = 46
  · have := hd_pos (s := s) (x := x + n) (by rw [h]; decide)
    rw [if_pos ⟨this, h⟩, if_pos h]; rfl
  · rw [if_neg (fun k => h k.2), if_neg h]
theorem numerals_L (s : ByteArray) (x : Nat) : numeralsR s x = numeralsL (from_ s x) := by
  unfold numeralsR numeralsL
  rw [num_L, runN_span]
  unfold numOk numOkL
  rw [bt_from]
theorem low_str (l : List UInt8) : lowS (strOf l) = strOf (Lib.toLowerA l) := by
  unfold lowS strOf
  simp
theorem hash_L (s : ByteArray) (x : Nat) (k : Int) (n : Nat) : hashK s x k n = hashL (from_ s x) k n := by
  unfold hashK hashL
  rw [extract_from, low_str, bare_L, from_drop]
theorem hashes_L (s : ByteArray) (x : Nat) : hashesR s x = hashesL (from_ s x) := by
  unfold hashesR hashesL
  have e : (x : Int) + 1 = ((x + 1 : Nat) : Int) := by omega
  rw [from_drop, from_drop, runN_span, runN_span, hash_L, hash_L, e, bt_from]
  by_cases h : x + 1 < s.size
  · rw [if_pos h]
  · rw [if_neg h, from_nil (s := s) (x := x + 1) (by omega)]
    rfl
theorem span_take (p : Int → Bool) : ∀ l : List UInt8, (l.take (spanN p l)).all (fun c => p (by8 c)) = true
  | [] => rfl
  | c :: r => by
    rw [spanN]
    split
    · rename_i h
      rw [List.take_succ_cons, List.all_cons, h, span_take p r]; rfl
    · rfl
theorem span_le (p : Int → Bool) : ∀ l : List UInt8, spanN p l ≤ l.length
  | [] => Nat.le_refl _
  | c :: r => by
    rw [spanN]
    have := span_le p r
    split
    · rw [List.length_cons]; omega
    · omega
theorem span_next (p : Int → Bool) : ∀ l : List UInt8, l.drop (spanN p l) = [] ∨ p (hd (l.drop (spanN p l))) = false
  | [] => .inl rfl
  | c :: r => by
    rw [spanN]
    split
    · rename_i h
      rw [List.drop_succ_cons]
      exact span_next p r
    · rename_i h
      right
      simpa [hd] using h
theorem span_all (p : Int → Bool) (r : List UInt8) (hr : r = [] ∨ p (hd r) = false) : ∀ a : List UInt8, a.all (fun c => p (by8 c)) = true → spanN p (a ++ r) = a.length
  | [], _ => by
    rw [List.nil_append]
    rcases hr with rfl | hr
    · rfl
    · cases r with
      | nil => rfl
      | cons c r => rw [spanN, if_neg (by simpa [hd] using hr)]; rfl
  | c :: a, h => by
    rw [List.all_cons, Bool.and_eq_true] at h
    rw [List.cons_append, spanN, if_pos h.1, span_all p r hr a h.2, List.length_cons]
theorem quoteL_print {c : UInt8} {r : List UInt8} (h : ¬ c = 34) (hp : printB (by8 c) = true) : quoteL (c :: r) = (quoteL r).map (fun q => (c :: q.1, q.2 + 1)) := by
  rw [quoteL.eq_def]
  simp only [if_neg h, if_pos hp]
  cases quoteL r <;> rfl
theorem quoteL_bad {c : UInt8} {r : List UInt8} (h : ¬ c = 34) (hp : ¬ printB (by8 c) = true) : quoteL (c :: r) = none := by
  rw [quoteL.eq_def]
  simp only [if_neg h, if_neg hp]
theorem quoteL_two (r : List UInt8) : quoteL (34 :: 34 :: r) = (quoteL r).map (fun q => (34 :: q.1, q.2 + 2)) := by
  rw [quoteL.eq_def]
  simp only [if_true]
  cases quoteL r <;> rfl
theorem quoteL_end {r : List UInt8} (h : ¬ hd r = 34) : quoteL (34 :: r) = some ([], 1) := by
  rw [quoteL.eq_def]
  simp only [if_true]
  cases r with
  | nil => rfl
  | cons d r => exact if_neg (fun e => h (by rw [e]; rfl))
theorem quote_run (r : List UInt8) : ∀ a : List UInt8, a.all (fun c => quoteB (by8 c)) = true → quoteL (a ++ r) = (quoteL r).map (fun q => (a ++ q.1, q.2 + a.length))
  | [], _ => by
    rw [List.nil_append]
    cases quoteL r <;> rfl
  | c :: a, h => by
    rw [List.all_cons, Bool.and_eq_true] at h
    have h1 := h.1
    unfold quoteB at h1
    rw [Bool.and_eq_true] at h1
    have hne : ¬ c = 34 := by
      rintro rfl
      exact absurd h1.1 (by decide)
    rw [List.cons_append, quoteL_print hne h1.2, quote_run r a h.2]
    cases quoteL r with
    | none => rfl
    | some q => simp [Nat.add_assoc]
theorem by8_34 {c : UInt8} : by8 c = 34 ↔ c = 34 := by
  unfold by8
  constructor
  · intro h
    apply UInt8.toNat_inj.1
    simpa using (by omega : c.toNat = 34)
  · rintro rfl; rfl
theorem hd_34 {l : List UInt8} (h : hd l = 34) : ∃ r, l = 34 :: r := by
  cases l with
  | nil => exact absurd h (by decide)
  | cons c r => exact ⟨r, by rw [by8_34.1 h]⟩
theorem quoteGo_L (s : ByteArray) : ∀ (d i : Nat) (acc : List UInt8), s.size - i < d → quoteGo s d i acc = (quoteL (from_ s i)).map (fun q => (acc ++ q.1, i + q.2))
  | 0, i, acc, h => by omega
  | d + 1, i, acc, h => by
    rw [quoteGo, runN_span]
    obtain ⟨n, hn⟩ : ∃ n, n = spanN quoteB (from_ s i) := ⟨_, rfl⟩
    have h1 := span_take quoteB (from_ s i)
    have h2 := span_next quoteB (from_ s i)
    have h3 := span_le quoteB (from_ s i)
    rw [← hn] at h1 h2 h3 ⊢
    rw [from_length] at h3
    rw [from_drop] at h2
    have hl : from_ s i = (from_ s i).take n ++ from_ s (i + n) := by rw [← from_drop, List.take_append_drop]
    have hq := quote_run (from_ s (i + n)) ((from_ s i).take n) h1
    rw [← hl] at hq
    have hlen : ((from_ s i).take n).length = n := by rw [List.length_take, from_length]; omega
    rw [hlen] at hq
    rw [hq, bt_from, bt_from, extract_from]
    have htx : txt acc (strOf ((from_ s i).take n)) = acc ++ (from_ s i).take n := by simp [txt, strOf]
    rw [htx]
    by_cases hb : hd (from_ s (i + n)) = 34
    · have hin := hd_pos (s := s) (x := i + n) (by rw [hb]; decide)
      obtain ⟨c, hc, -⟩ := from_cons hin
      obtain ⟨r, hr⟩ := hd_34 hb
      have hrr : r = from_ s (i + n + 1) := by rw [hc] at hr; injection hr with _ hr; exact hr.symm
      rw [if_pos ⟨hin, hb⟩, hr]
      subst hrr
      by_cases hb2 : hd (from_ s (i + n + 1)) = 34
      · have hin2 := hd_pos (s := s) (x := i + n + 1) (by rw [hb2]; decide)
        obtain ⟨c2, hc2, -⟩ := from_cons hin2
        obtain ⟨r2, hr2⟩ := hd_34 hb2
        have hrr2 : r2 = from_ s (i + n + 2) := by rw [hc2] at hr2; injection hr2 with _ hr2; exact hr2.symm
        rw [if_pos ⟨hin2, hb2⟩, hr2]
        subst hrr2
        rw [quoteGo_L s d (i + n + 2) _ (by omega), quoteL_two]
        cases quoteL (from_ s (i + n + 2)) with
        | none => rfl
        | some q => simp only [Option.map_some, List.append_assoc, List.cons_append, List.nil_append]; congr 2; omega
      · rw [if_neg (fun k => hb2 k.2), quoteL_end hb2]
        simp only [Option.map_some, List.append_nil]
        congr 2; omega
    · rw [if_neg (fun k => hb k.2)]
      cases hr : from_ s (i + n) with
      | nil => rfl
      | cons c r =>
        rw [hr] at h2 hb
        have hne : ¬ c = 34 := fun e => hb (by rw [e]; rfl)
        have hpr : ¬ printB (by8 c) = true := by
          rcases h2 with h2 | h2
          · cases h2
          · intro hp
            have : quoteB (by8 c) = false := h2
            unfold quoteB at this
            rw [hp, Bool.and_true] at this
            have h4 : by8 c = 34 := by simpa using this
            exact hb h4
        rw [quoteL_bad hne hpr]
        rfl
theorem quotes_L (s : ByteArray) (x : Nat) : quotesR s x = quotesL (from_ s x) := by
  unfold quotesR quotesL
  rw [from_drop, quoteGo_L s (s.size + 1) (x + 1) [] (by omega)]
  cases quoteL (from_ s (x + 1)) with
  | none => rfl
  | some q => simp only [Option.map_some, List.nil_append]; congr 1; omega
theorem readOne_L (s : ByteArray) (x : Nat) : readOne s x = readL (from_ s x) := by
  unfold readOne readL
  rw [bt_from, numerals_L, hashes_L, quotes_L, bars_L, colons_L, words_L]
  unfold blanksR commentsR commentsL bracketsR bracketsL
  rw [runN_span, bt_from]
  rfl
/-! ### what a token looks like -/
abbrev allP (p : Int → Bool) (l : List UInt8) : Bool := l.all fun c => p (by8 c)
theorem by8_all {P : Int → Prop} (h : ∀ c : Fin 256, P ((c.val : Nat) : Int)) (c : UInt8) : P (by8 c) := h ⟨c.toNat, c.toNat_lt⟩
theorem end_facts : ∀ c : UInt8, endC (classI (by8 c)) = true → simpleB (by8 c) = false ∧ digitB (by8 c) = false ∧ hexB (by8 c) = false ∧ binB (by8 c) = false ∧ by8 c ≠ 46 :=
  by8_all (P := fun c => endC (classI c) = true → simpleB c = false ∧ digitB c = false ∧ hexB c = false ∧ binB c = false ∧ c ≠ 46) (by decide +kernel)
theorem class_facts : ∀ c : UInt8, (digitB (by8 c) = true → classI (by8 c) = 4) ∧ (classI (by8 c) = 4 → digitB (by8 c) = true) ∧ (classI (by8 c) = 9 → simpleB (by8 c) = true) ∧ (classI (by8 c) = 3 → by8 c = 40 ∨ by8 c = 41) ∧ (classI (by8 c) = 5 → by8 c = 35) ∧ (classI (by8 c) = 6 → by8 c = 34) ∧ (classI (by8 c) = 7 → by8 c = 124) ∧ (classI (by8 c) = 8 → by8 c = 58) ∧ (classI (by8 c) = 2 → by8 c = 59) :=
  by8_all (P := fun c => (digitB c = true → classI c = 4) ∧ (classI c = 4 → digitB c = true) ∧ (classI c = 9 → simpleB c = true) ∧ (classI c = 3 → c = 40 ∨ c = 41) ∧ (classI c = 5 → c = 35) ∧ (classI c = 6 → c = 34) ∧ (classI c = 7 → c = 124) ∧ (classI c = 8 → c = 58) ∧ (classI c = 2 → c = 59)) (by decide +kernel)
theorem by8_inj {c d : UInt8} (h : by8 c = by8 d) : c = d := by
  unfold by8 at h
  exact UInt8.toNat_inj.1 (by omega)
/-- The digits ahead of the point. -/
def numWell (w : List UInt8) : Prop := w ≠ [] ∧ allP digitB w = true ∧ (w.length = 1 ∨ hd w ≠ 48)
inductive Lex : List UInt8 → Int → List UInt8 → Bool → Prop
  | opens : Lex [40] 1 [40] false
  | closes : Lex [41] 2 [41] false
  | num (w : List UInt8) : numWell w → Lex w 3 w false
  | dec (a b : List UInt8) : numWell a → b ≠ [] → allP digitB b = true → Lex (a ++ 46 :: b) 4 (a ++ 46 :: b) false
  | hex (h : List UInt8) : h ≠ [] → allP hexB h = true → Lex (35 :: 120 :: h) 5 (Lib.toLowerA h) false
  | bin (h : List UInt8) : h ≠ [] → allP binB h = true → Lex (35 :: 98 :: h) 6 (Lib.toLowerA h) false
  | str (t : List UInt8) : allP printB t = true → Lex (34 :: (dblL t ++ [34])) 7 t false
  | sym (w : List UInt8) : allP simpleB w = true → classI (hd w) = 9 → Lex w 8 w false
  | bar (t : List UInt8) : allP barB t = true → Lex (124 :: (t ++ [124])) 8 t true
  | key (t : List UInt8) : t ≠ [] → allP simpleB t = true → Lex (58 :: t) 9 t false
/-- May this stand behind the token? -/
def folB (k : Int) (q : Bool) (rest : List UInt8) : Bool := if k = 1 ∨ k = 2 ∨ q = true then true else if k = 7 then hd rest != 34 else endL rest
theorem end_stop {rest : List UInt8} (h : endL rest = true) {p : Int → Bool} (hp : ∀ c : UInt8, endC (classI (by8 c)) = true → p (by8 c) = false) : rest = [] ∨ p (hd rest) = false := by
  cases rest with
  | nil => exact .inl rfl
  | cons c r => exact .inr (hp c h)
theorem quote_dbl (rest : List UInt8) (hr : hd rest ≠ 34) : ∀ t : List UInt8, allP printB t = true → quoteL (dblL t ++ 34 :: rest) = some (t, (dblL t).length + 1)
  | [], _ => by
    show quoteL (34 :: rest) = _
    rw [quoteL_end hr]
    rfl
  | c :: t, h => by
    rw [allP, List.all_cons, Bool.and_eq_true] at h
    by_cases hc : c = 34
    · subst hc
      rw [dblL, if_pos rfl, List.cons_append, List.cons_append, quoteL_two, quote_dbl rest hr t h.2]
      rfl
    · rw [dblL, if_neg hc, List.cons_append, quoteL_print hc h.1, quote_dbl rest hr t h.2]
      rfl
theorem bare_good {w rest : List UInt8} {k : Int} {tx : List UInt8} (hr : endL rest = true) {n : Nat} (hn : n = w.length) : bareL (w ++ rest) k tx n true = ⟨0, some (k, strOf tx, false), w.length⟩ := by
  subst hn
  unfold bareL
  rw [List.drop_left, hr]
  rfl
theorem read1 {l : List UInt8} (h : classI (hd l) = 1) : readL l = ⟨0, none, 1⟩ := by
  unfold readL; rw [h]; rfl
theorem read2 {l : List UInt8} (h : classI (hd l) = 2) : readL l = commentsL l := by
  unfold readL; rw [h]; rfl
theorem read3 {l : List UInt8} (h : classI (hd l) = 3) : readL l = bracketsL l := by
  unfold readL; rw [h]; rfl
theorem read4 {l : List UInt8} (h : classI (hd l) = 4) : readL l = numeralsL l := by
  unfold readL; rw [h]; rfl
theorem read5 {l : List UInt8} (h : classI (hd l) = 5) : readL l = hashesL l := by
  unfold readL; rw [h]; rfl
theorem read6 {l : List UInt8} (h : classI (hd l) = 6) : readL l = quotesL l := by
  unfold readL; rw [h]; rfl
theorem read7 {l : List UInt8} (h : classI (hd l) = 7) : readL l = barsL l := by
  unfold readL; rw [h]; rfl
theorem read8 {l : List UInt8} (h : classI (hd l) = 8) : readL l = colonsL l := by
  unfold readL; rw [h]; rfl
theorem read9 {l : List UInt8} (h : classI (hd l) = 9) : readL l = wordsL l := by
  unfold readL; rw [h]; rfl
theorem num_lead {w : List UInt8} (h : numWell w) (r : List UInt8) : classI (hd (w ++ r)) = 4 ∧ numOkL (w ++ r) w.length = true := by
  obtain ⟨h1, h2, h3⟩ := h
  cases w with
  | nil => exact absurd rfl h1
  | cons c w =>
    rw [allP, List.all_cons, Bool.and_eq_true] at h2
    refine ⟨(class_facts c).1 h2.1, ?_⟩
    unfold numOkL
    rw [Bool.or_eq_true]
    rcases h3 with h3 | h3
    · left; rw [h3]; rfl
    · right; exact bne_iff_ne.2 h3
/-- What looks like a token is read as it. -/
theorem lex_read {w : List UInt8} {k : Int} {tx : List UInt8} {q : Bool} (h : Lex w k tx q) (rest : List UInt8) (hf : folB k q rest = true) : readL (w ++ rest) = ⟨0, some (k, strOf tx, q), w.length⟩ := by
  cases h with
  | opens => rfl
  | closes => rfl
  | num w h =>
    have hr : endL rest = true := hf
    obtain ⟨h1, h2⟩ := num_lead h rest
    rw [read4 h1]
    have hs : spanN digitB (w ++ rest) = w.length := span_all _ _ (end_stop hr (fun c hc => (end_facts c hc).2.1)) w h.2.1
    unfold numeralsL
    rw [hs, h2]
    unfold numL
    rw [List.drop_left, if_neg (by
      cases rest with
      | nil => decide
      | cons c r => exact (end_facts c hr).2.2.2.2), List.take_left, bare_good hr rfl]
  | dec a b h hb0 hb =>
    have hr : endL rest = true := hf
    have e : (a ++ 46 :: b) ++ rest = a ++ (46 :: (b ++ rest)) := by simp
    obtain ⟨h1, h2⟩ := num_lead h (46 :: (b ++ rest))
    rw [e, read4 h1]
    have hs : spanN digitB (a ++ 46 :: (b ++ rest)) = a.length := span_all _ _ (.inr (show digitB (by8 46) = false by decide)) a h.2.1
    have hs2 : spanN digitB (b ++ rest) = b.length := span_all _ _ (end_stop hr (fun c hc => (end_facts c hc).2.1)) b hb
    have hd2 : (a ++ 46 :: (b ++ rest)).drop (a.length + 1) = b ++ rest := by
      rw [← List.drop_drop, List.drop_left]; rfl
    have hb1 : 0 < b.length := List.length_pos_iff.2 hb0
    unfold numeralsL
    rw [hs, h2]
    unfold numL
    rw [List.drop_left, if_pos (show hd (46 :: (b ++ rest)) = 46 from rfl), hd2, hs2, decide_eq_true hb1, ← e]
    have hlen : a.length + (1 + b.length) = (a ++ 46 :: b).length := by simp; omega
    rw [hlen, List.take_left]
    exact bare_good hr rfl
  | hex h h0 hh =>
    have hr : endL rest = true := hf
    have hs : spanN hexB (h ++ rest) = h.length := span_all _ _ (end_stop hr (fun c hc => (end_facts c hc).2.2.1)) h hh
    have hb1 : 0 < h.length := List.length_pos_iff.2 h0
    rw [read5 rfl]
    unfold hashesL
    rw [if_pos (show hd (List.drop 1 (35 :: 120 :: h ++ rest)) = 120 from rfl)]
    show hashL _ 5 (spanN hexB (h ++ rest)) = _
    unfold hashL
    rw [hs, decide_eq_true hb1]
    show bareL _ 5 (Lib.toLowerA ((h ++ rest).take h.length)) _ _ = _
    rw [List.take_left]
    exact bare_good hr rfl
  | bin h h0 hh =>
    have hr : endL rest = true := hf
    have hs : spanN binB (h ++ rest) = h.length := span_all _ _ (end_stop hr (fun c hc => (end_facts c hc).2.2.2.1)) h hh
    have hb1 : 0 < h.length := List.length_pos_iff.2 h0
    rw [read5 rfl]
    unfold hashesL
    rw [if_neg (show ¬ hd (List.drop 1 (35 :: 98 :: h ++ rest)) = 120 from (show ¬ by8 98 = 120 by decide)), if_pos (show hd (List.drop 1 (35 :: 98 :: h ++ rest)) = 98 from rfl)]
    show hashL _ 6 (spanN binB (h ++ rest)) = _
    unfold hashL
    rw [hs, decide_eq_true hb1]
    show bareL _ 6 (Lib.toLowerA ((h ++ rest).take h.length)) _ _ = _
    rw [List.take_left]
    exact bare_good hr rfl
  | str t ht =>
    have hr : hd rest ≠ 34 := bne_iff_ne.1 hf
    rw [read6 rfl]
    unfold quotesL
    show (match quoteL ((dblL tx ++ [34]) ++ rest) with | none => _ | some (t, n) => _) = _
    rw [List.append_assoc, List.singleton_append, quote_dbl rest hr tx ht]
    simp
  | sym w hw hc =>
    have hr : endL rest = true := hf
    have hs : spanN simpleB (w ++ rest) = w.length := span_all _ _ (end_stop hr (fun c hc => (end_facts c hc).1)) w hw
    have hc2 : classI (hd (w ++ rest)) = 9 := by
      cases w with
      | nil => exact absurd hc (by decide)
      | cons c w => exact hc
    rw [read9 hc2]
    unfold wordsL
    rw [hs, List.take_left]
    exact bare_good hr rfl
  | bar t ht =>
    rw [read7 rfl]
    have e : (124 :: (tx ++ [124]) ++ rest) = 124 :: (tx ++ 124 :: rest) := by simp
    have hs : spanN barB (tx ++ 124 :: rest) = tx.length := span_all _ _ (.inr (show barB (by8 124) = false by decide)) tx ht
    rw [e]
    unfold barsL
    show (if hd (List.drop (1 + spanN barB (tx ++ 124 :: rest)) (124 :: (tx ++ 124 :: rest))) = 124 then (⟨0, some (8, strOf ((tx ++ 124 :: rest).take (spanN barB (tx ++ 124 :: rest))), true), spanN barB (tx ++ 124 :: rest) + 2⟩ : Rd) else _) = _
    rw [hs, Nat.add_comm 1, List.drop_succ_cons, List.drop_left, if_pos (show hd (124 :: rest) = 124 from rfl), List.take_left]
    simp
  | key t h0 ht =>
    have hr : endL rest = true := hf
    have hs : spanN simpleB (tx ++ rest) = tx.length := span_all _ _ (end_stop hr (fun c hc => (end_facts c hc).1)) tx ht
    have hb1 : 0 < tx.length := List.length_pos_iff.2 h0
    rw [read8 rfl]
    unfold colonsL
    show bareL (58 :: (tx ++ rest)) 9 ((tx ++ rest).take (spanN simpleB (tx ++ rest))) (spanN simpleB (tx ++ rest) + 1) (decide (0 < spanN simpleB (tx ++ rest))) = _
    rw [hs, decide_eq_true hb1, List.take_left]
    exact bare_good (w := 58 :: tx) hr rfl
theorem quote_back : ∀ (d : Nat) (l t : List UInt8) (n : Nat), l.length < d → quoteL l = some (t, n) → ∃ rest, l = dblL t ++ 34 :: rest ∧ n = (dblL t).length + 1 ∧ allP printB t = true ∧ hd rest ≠ 34
  | 0, l, t, n, hd0, h => by omega
  | d + 1, [], t, n, hd0, h => by rw [quoteL.eq_def] at h; cases h
  | d + 1, c :: r, t, n, hd0, h => by
    rw [List.length_cons] at hd0
    by_cases hc : c = 34
    · subst hc
      by_cases h2 : hd r = 34
      · obtain ⟨r2, rfl⟩ := hd_34 h2
        rw [quoteL_two] at h
        cases hq : quoteL r2 with
        | none => rw [hq] at h; cases h
        | some p =>
          obtain ⟨t2, n2⟩ := p
          rw [hq] at h
          injection h with h
          injection h with h3 h4
          subst h3 h4
          obtain ⟨rest, e1, e2, e3, e4⟩ := quote_back d r2 t2 n2 (by rw [List.length_cons] at hd0; omega) hq
          subst e1 e2
          refine ⟨rest, by rw [dblL, if_pos rfl]; rfl, by rw [dblL, if_pos rfl]; simp, ?_, e4⟩
          rw [allP, List.all_cons, Bool.and_eq_true]
          exact ⟨by decide, e3⟩
      · rw [quoteL_end h2] at h
        injection h with h
        injection h with h3 h4
        subst h3 h4
        exact ⟨r, rfl, rfl, rfl, h2⟩
    · by_cases hp : printB (by8 c) = true
      · rw [quoteL_print hc hp] at h
        cases hq : quoteL r with
        | none => rw [hq] at h; cases h
        | some p =>
          obtain ⟨t2, n2⟩ := p
          rw [hq] at h
          injection h with h
          injection h with h3 h4
          subst h3 h4
          obtain ⟨rest, e1, e2, e3, e4⟩ := quote_back d r t2 n2 (by omega) hq
          subst e1 e2
          refine ⟨rest, by rw [dblL, if_neg hc]; rfl, by rw [dblL, if_neg hc]; simp, ?_, e4⟩
          rw [allP, List.all_cons, Bool.and_eq_true]
          exact ⟨hp, e3⟩
      · rw [quoteL_bad hc hp] at h; cases h
/-- What was read: it looks like a token, and what stands behind may stand there. -/
structure Read (l : List UInt8) (k : Int) (tx : ByteArray) (q : Bool) (n : Nat) : Prop where
  told : ∃ w rest txl, l = w ++ rest ∧ w.length = n ∧ tx = strOf txl ∧ Lex w k txl q ∧ folB k q rest = true
theorem bare_back {l : List UInt8} {k0 k : Int} {tx0 : List UInt8} {tx : ByteArray} {n0 n : Nat} {ok q : Bool} (h : bareL l k0 tx0 n0 ok = ⟨0, some (k, tx, q), n⟩) : ok = true ∧ endL (l.drop n0) = true ∧ k = k0 ∧ tx = strOf tx0 ∧ q = false ∧ n = n0 := by
  unfold bareL at h
  split at h
  · rename_i h1
    rw [Bool.and_eq_true] at h1
    injection h with _ h2 h3
    injection h2 with h2
    injection h2 with h4 h5
    injection h5 with h5 h6
    exact ⟨h1.1, h1.2, h4.symm, h5.symm, h6.symm, h3.symm⟩
  · injection h with h1 _ _
    cases h1
theorem read_of_bare {l w : List UInt8} {k : Int} {tx : List UInt8} {n : Nat} (hw : w = l.take n) (hn : n ≤ l.length) (hl : Lex w k tx false) (hk : k ≠ 7) (he : endL (l.drop n) = true) : Read l k (strOf tx) false n := by
  refine ⟨⟨w, l.drop n, tx, ?_, ?_, rfl, hl, ?_⟩⟩
  · rw [hw, List.take_append_drop]
  · rw [hw, List.length_take]; omega
  · unfold folB
    split
    · rfl
    · exact he
theorem span_drop_le (p : Int → Bool) (l : List UInt8) (j : Nat) (hj : j ≤ l.length) : j + spanN p (l.drop j) ≤ l.length := by
  have := span_le p (l.drop j)
  rw [List.length_drop] at this
  omega
theorem hd_cons_of {l : List UInt8} {v : Int} (h : hd l = v) (hv : v ≠ 0) : ∃ c r, l = c :: r ∧ by8 c = v := by
  cases l with
  | nil => exact absurd h.symm hv
  | cons c r => exact ⟨c, r, rfl, h⟩
theorem num_well {l : List UInt8} (h : classI (hd l) = 4) (hok : numOkL l (spanN digitB l) = true) : numWell (l.take (spanN digitB l)) := by
  cases l with
  | nil => exact absurd h (by decide)
  | cons c r =>
    have hc : digitB (by8 c) = true := (class_facts c).2.1 h
    have hn : spanN digitB (c :: r) = spanN digitB r + 1 := by rw [spanN, if_pos hc]
    refine ⟨by rw [hn, List.take_succ_cons]; simp, span_take _ _, ?_⟩
    unfold numOkL at hok
    rw [Bool.or_eq_true] at hok
    rcases hok with h1 | h1
    · left
      have := span_le digitB (c :: r)
      rw [List.length_take]
      have := of_decide_eq_true h1
      omega
    · right
      rw [hn, List.take_succ_cons]
      exact bne_iff_ne.1 h1
theorem read_lex {l : List UInt8} {k : Int} {tx : ByteArray} {q : Bool} {n : Nat} (h : readL l = ⟨0, some (k, tx, q), n⟩) : Read l k tx q n := by
  rcases class_cases (hd l) with hc | hc | hc | hc | hc | hc | hc | hc | hc | hc
  · unfold readL at h; rw [hc] at h
    have h : (⟨60, none, 0⟩ : Rd) = _ := h
    injection h with h1; cases h1
  · rw [read1 hc] at h; injection h with _ h2; cases h2
  · rw [read2 hc] at h; unfold commentsL at h; injection h with _ h2; cases h2
  · rw [read3 hc] at h
    unfold bracketsL at h
    split at h
    · rename_i h1
      obtain ⟨c, r, rfl, e⟩ := hd_cons_of h1 (by decide)
      obtain rfl : c = 41 := by8_inj e
      injection h with _ h2 h3
      injection h2 with h2; injection h2 with h4 h5; injection h5 with h5 h6
      subst h3 h4 h5 h6
      exact ⟨⟨[41], r, [41], rfl, rfl, rfl, .closes, rfl⟩⟩
    · rename_i h1
      have h0 : hd l ≠ 0 := by
        intro h0; rw [h0] at hc; exact absurd hc (by decide)
      obtain ⟨c, r, rfl, e⟩ := hd_cons_of rfl h0
      obtain rfl : c = 40 := by
        rcases (class_facts c).2.2.2.1 hc with h3 | h3
        · exact by8_inj h3
        · exact absurd h3 h1
      injection h with _ h2 h3
      injection h2 with h2; injection h2 with h4 h5; injection h5 with h5 h6
      subst h3 h4 h5 h6
      exact ⟨⟨[40], r, [40], rfl, rfl, rfl, .opens, rfl⟩⟩
  · rw [read4 hc] at h
    unfold numeralsL numL at h
    split at h
    · rename_i h46
      obtain ⟨h1, h2, rfl, rfl, rfl, rfl⟩ := bare_back h
      rw [Bool.and_eq_true] at h1
      have hw := num_well hc h1.1
      have hm := of_decide_eq_true h1.2
      have hle := span_le digitB l
      obtain ⟨c, r, hcr, e⟩ := hd_cons_of h46 (by decide)
      obtain rfl : c = 46 := by8_inj e
      obtain ⟨m, hmm⟩ : ∃ m, m = spanN digitB l := ⟨_, rfl⟩
      rw [← hmm] at hw hcr hle h2 hm ⊢
      have hr : l.drop (m + 1) = r := by rw [← List.drop_drop, hcr]; rfl
      rw [hr] at hm h2 ⊢
      have hlen : l.length = m + (1 + r.length) := by
        have := congrArg List.length hcr
        rw [List.length_drop, List.length_cons] at this
        omega
      have htk : l.take (m + (1 + spanN digitB r)) = l.take m ++ 46 :: r.take (spanN digitB r) := by
        rw [List.take_add, hcr, Nat.add_comm 1, List.take_succ_cons]
      have hle2 := span_le digitB r
      refine read_of_bare rfl (by omega) ?_ (by decide) h2
      rw [htk]
      refine .dec _ _ hw ?_ (span_take _ _)
      intro h0
      have := congrArg List.length h0
      rw [List.length_take, List.length_nil] at this
      omega
    · obtain ⟨h1, h2, rfl, rfl, rfl, rfl⟩ := bare_back h
      exact read_of_bare rfl (span_le _ _) (.num _ (num_well hc h1)) (by decide) h2
  · rw [read5 hc] at h
    obtain ⟨c, r, rfl, e⟩ := hd_cons_of (l := l) rfl (by intro h0; rw [h0] at hc; exact absurd hc (by decide))
    obtain rfl : c = 35 := by8_inj ((class_facts c).2.2.2.2.1 hc)
    unfold hashesL at h
    split at h
    · rename_i h1
      obtain ⟨c, r, hr, e9⟩ := hd_cons_of h1 (by decide)
      have hr : _ = c :: r := hr
      subst hr
      obtain rfl : c = 120 := by8_inj e9
      obtain ⟨h1, h2, rfl, rfl, rfl, rfl⟩ := bare_back h
      have hm := of_decide_eq_true h1
      have hle := span_le hexB r
      have hm : 0 < spanN hexB r := hm
      refine read_of_bare rfl (by show spanN hexB r + 2 ≤ r.length + 1 + 1; omega) ?_ (by decide) h2
      show Lex (35 :: 120 :: r.take (spanN hexB r)) 5 (Lib.toLowerA (r.take (spanN hexB r))) false
      refine .hex _ ?_ (span_take _ _)
      intro h0
      have := congrArg List.length h0
      rw [List.length_take, List.length_nil] at this
      omega
    · split at h
      · rename_i h1
        obtain ⟨c, r, hr, e9⟩ := hd_cons_of h1 (by decide)
        have hr : _ = c :: r := hr
        subst hr
        obtain rfl : c = 98 := by8_inj e9
        obtain ⟨h1, h2, rfl, rfl, rfl, rfl⟩ := bare_back h
        have hm := of_decide_eq_true h1
        have hle := span_le binB r
        have hm : 0 < spanN binB r := hm
        refine read_of_bare rfl (by show spanN binB r + 2 ≤ r.length + 1 + 1; omega) ?_ (by decide) h2
        show Lex (35 :: 98 :: r.take (spanN binB r)) 6 (Lib.toLowerA (r.take (spanN binB r))) false
        refine .bin _ ?_ (span_take _ _)
        intro h0
        have := congrArg List.length h0
        rw [List.length_take, List.length_nil] at this
        omega
      · injection h with h1; cases h1
  · rw [read6 hc] at h
    obtain ⟨c, r, rfl, e⟩ := hd_cons_of (l := l) rfl (by intro h0; rw [h0] at hc; exact absurd hc (by decide))
    obtain rfl : c = 34 := by8_inj ((class_facts c).2.2.2.2.2.1 hc)
    unfold quotesL at h
    have e1 : (34 :: r : List UInt8).drop 1 = r := rfl
    rw [e1] at h
    cases hq : quoteL r with
    | none => rw [hq] at h; injection h with h1; cases h1
    | some p =>
      obtain ⟨t, m⟩ := p
      rw [hq] at h
      injection h with _ h2 h3
      injection h2 with h2; injection h2 with h4 h5; injection h5 with h5 h6
      subst h3 h4 h5 h6
      obtain ⟨rest, e1, e2, e3, e4⟩ := quote_back _ r t m (Nat.lt_succ_self _) hq
      subst e1 e2
      exact ⟨⟨34 :: (dblL t ++ [34]), rest, t, by simp, by simp, rfl, .str t e3, bne_iff_ne.2 e4⟩⟩
  · rw [read7 hc] at h
    obtain ⟨c, r, rfl, e⟩ := hd_cons_of (l := l) rfl (by intro h0; rw [h0] at hc; exact absurd hc (by decide))
    obtain rfl : c = 124 := by8_inj ((class_facts c).2.2.2.2.2.2.1 hc)
    unfold barsL at h
    have e1 : (124 :: r : List UInt8).drop 1 = r := rfl
    rw [e1, Nat.add_comm 1, List.drop_succ_cons] at h
    split at h
    · rename_i h1
      obtain ⟨c, r2, hr, e⟩ := hd_cons_of h1 (by decide)
      obtain rfl : c = 124 := by8_inj e
      injection h with _ h2 h3
      injection h2 with h2; injection h2 with h4 h5; injection h5 with h5 h6
      subst h3 h4 h5 h6
      have hrr : r = r.take (spanN barB r) ++ 124 :: r2 := by rw [← hr, List.take_append_drop]
      have hle := span_le barB r
      refine ⟨⟨124 :: (r.take (spanN barB r) ++ [124]), r2, r.take (spanN barB r), ?_, ?_, rfl, .bar _ (span_take _ _), rfl⟩⟩
      · rw [List.cons_append, List.append_assoc, List.singleton_append, ← hrr]
      · rw [List.length_cons, List.length_append, List.length_take, List.length_singleton]; omega
    · injection h with h1; cases h1
  · rw [read8 hc] at h
    obtain ⟨c, r, rfl, e⟩ := hd_cons_of (l := l) rfl (by intro h0; rw [h0] at hc; exact absurd hc (by decide))
    obtain rfl : c = 58 := by8_inj ((class_facts c).2.2.2.2.2.2.2.1 hc)
    obtain ⟨h1, h2, rfl, rfl, rfl, rfl⟩ := bare_back h
    have hm := of_decide_eq_true h1
    have hm : 0 < spanN simpleB r := hm
    have hle := span_le simpleB r
    refine read_of_bare rfl (by show spanN simpleB r + 1 ≤ r.length + 1; omega) ?_ (by decide) h2
    show Lex (58 :: r.take (spanN simpleB r)) 9 (r.take (spanN simpleB r)) false
    refine .key _ ?_ (span_take _ _)
    intro h0
    have := congrArg List.length h0
    rw [List.length_take, List.length_nil] at this
    omega
  · rw [read9 hc] at h
    obtain ⟨c, r, rfl, e⟩ := hd_cons_of (l := l) rfl (by intro h0; rw [h0] at hc; exact absurd hc (by decide))
    obtain ⟨h1, h2, rfl, rfl, rfl, rfl⟩ := bare_back h
    refine read_of_bare rfl (span_le _ _) (.sym _ (span_take _ _) ?_) (by decide) h2
    have hs : simpleB (by8 c) = true := (class_facts c).2.2.1 hc
    rw [spanN, if_pos hs, List.take_succ_cons]
    exact hc
end Go.Proofs.YthklnopfgoekeaaDoor.X
