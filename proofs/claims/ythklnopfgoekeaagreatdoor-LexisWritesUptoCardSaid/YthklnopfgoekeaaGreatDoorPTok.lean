/- One piece of a text, told on lists of bytes: what the scanner reads at a place depends on what lies from there on. A text and its tokens: what is laid out is scanned as the tokens, and what is scanned is laid out so; what is written. Tokens written out: what Write gives is what a token looks like, and back. The scanner's steps over a text with more behind it or ahead of it. -/
import Derived.Test.YthklnopfgoekeaaGreatDoorHWrite
namespace Go.Proofs.YthklnopfgoekeaaGreatDoor.X
section
open Go.RowKit Go.Proofs.YthklnopfgoekeaaGreatDoorW.PrintWords Go.Proofs.YthklnopfgoekeaaGreatDoorW.PrintLast Go.Proofs.YthklnopfgoekeaaGreatDoorW.PrintMore
set_option linter.unusedVariables false

def by8 (c : UInt8) : Int := (c.toNat : Int)
def hd (l : List UInt8) : Int := match l with
  | [] => 0
  | c :: _ => by8 c
/-- How many bytes at the head meet p. -/
def spanN (p : Int → Bool) : List UInt8 → Nat
  | [] => 0
  | c :: r => if p (by8 c) = true then spanN p r + 1 else 0
/-- What lies from place x on. -/
def from_ (s : ByteArray) (x : Nat) : List UInt8 := s.data.toList.drop x
theorem from_length (s : ByteArray) (x : Nat) : (from_ s x).length = s.size - x := by
  unfold from_
  rw [List.length_drop]
  rfl
theorem from_cons {s : ByteArray} {x : Nat} (h : x < s.size) : ∃ c, from_ s x = c :: from_ s (x + 1) ∧ bt s x = by8 c := by
  have hl : x < s.data.toList.length := h
  refine ⟨s.data.toList[x], ?_, ?_⟩
  · unfold from_
    rw [List.drop_eq_getElem_cons hl]
  · rw [← bt_nat s x h]
    rfl
theorem from_nil {s : ByteArray} {x : Nat} (h : s.size ≤ x) : from_ s x = [] := by
  apply List.eq_nil_of_length_eq_zero
  rw [from_length]; omega
theorem from_drop (s : ByteArray) (x k : Nat) : (from_ s x).drop k = from_ s (x + k) := by
  unfold from_
  rw [List.drop_drop]
theorem bt_from (s : ByteArray) (x : Nat) : bt s x = hd (from_ s x) := by
  by_cases h : x < s.size
  · obtain ⟨c, h1, h2⟩ := from_cons h
    rw [h1, h2]; rfl
  · rw [from_nil (by omega)]
    unfold bt
    rw [dif_neg (by simpa using h)]
    rfl
theorem runK_span (p : Int → Bool) (s : ByteArray) : ∀ (d x : Nat), s.size - x = d → runK p s x d = spanN p (from_ s x)
  | 0, x, h => by rw [from_nil (by omega)]; rfl
  | d + 1, x, h => by
    obtain ⟨c, h1, h2⟩ := from_cons (s := s) (x := x) (by omega)
    rw [h1, runK, h2, spanN, runK_span p s d (x + 1) (by omega)]
theorem runN_span (p : Int → Bool) (s : ByteArray) (x : Nat) : runN p s x = spanN p (from_ s x) := runK_span p s _ x rfl
theorem extract_from (s : ByteArray) (x n : Nat) : s.extract x (x + n) = strOf ((from_ s x).take n) := by
  have e : (s.extract x (x + n)).data.toList = (from_ s x).take n := by
    rw [ByteArray.data_extract]
    unfold from_
    simp [Array.toList_extract, List.extract_eq_take_drop]
  unfold strOf
  rw [← e]
def endL (l : List UInt8) : Bool := match l with
  | [] => true
  | c :: _ => endC (classI (by8 c))
theorem endB_from (s : ByteArray) (x : Nat) : endB s x = endL (from_ s x) := by
  unfold endB
  by_cases h : x < s.size
  · obtain ⟨c, h1, h2⟩ := from_cons h
    rw [h1, h2, decide_eq_false (by omega), Bool.false_or]
    rfl
  · rw [from_nil (by omega), decide_eq_true (by omega), Bool.true_or]
    rfl
def bareL (l : List UInt8) (k : Int) (tx : List UInt8) (n : Nat) (ok : Bool) : Rd := if (ok && endL (l.drop n)) = true then ⟨0, some (k, strOf tx, false), n⟩ else ⟨62, none, 0⟩
theorem bare_L (s : ByteArray) (x : Nat) (k : Int) (tx : List UInt8) (n : Nat) (ok : Bool) : bareR s x k (strOf tx) false n ok = bareL (from_ s x) k tx n ok := by
  unfold bareR bareL
  rw [endB_from, from_drop]
def wordsL (l : List UInt8) : Rd := bareL l 8 (l.take (spanN simpleB l)) (spanN simpleB l) true
def commentsL (l : List UInt8) : Rd := ⟨0, none, spanN notNlB l⟩
def bracketsL (l : List UInt8) : Rd := if hd l = 41 then ⟨0, some (2, strOf [41], false), 1⟩ else ⟨0, some (1, strOf [40], false), 1⟩
def colonsL (l : List UInt8) : Rd := bareL l 9 ((l.drop 1).take (spanN simpleB (l.drop 1))) (spanN simpleB (l.drop 1) + 1) (decide (0 < spanN simpleB (l.drop 1)))
def barsL (l : List UInt8) : Rd := if hd (l.drop (1 + spanN barB (l.drop 1))) = 124 then ⟨0, some (8, strOf ((l.drop 1).take (spanN barB (l.drop 1))), true), spanN barB (l.drop 1) + 2⟩ else ⟨61, none, 0⟩
def numOkL (l : List UInt8) (n : Nat) : Bool := decide (n = 1) || hd l != 48
def numL (l : List UInt8) (n : Nat) (ok : Bool) : Rd :=
  if hd (l.drop n) = 46 then bareL l 4 (l.take (n + (1 + spanN digitB (l.drop (n + 1))))) (n + (1 + spanN digitB (l.drop (n + 1)))) (ok && decide (0 < spanN digitB (l.drop (n + 1))))
  else bareL l 3 (l.take n) n ok
def numeralsL (l : List UInt8) : Rd := numL l (spanN digitB l) (numOkL l (spanN digitB l))
def hashL (l : List UInt8) (k : Int) (n : Nat) : Rd := bareL l k (Lib.toLowerA ((l.drop 2).take n)) (n + 2) (decide (0 < n))
def hashesL (l : List UInt8) : Rd :=
  if hd (l.drop 1) = 120 then hashL l 5 (spanN hexB (l.drop 2))
  else if hd (l.drop 1) = 98 then hashL l 6 (spanN binB (l.drop 2))
  else ⟨62, none, 0⟩
/-- Behind the opening quote: the text, and how many bytes it takes with the closing one. -/
def quoteL : List UInt8 → Option (List UInt8 × Nat)
  | [] => none
  | c :: r => if c = 34 then (match r with
      | [] => some ([], 1)
      | d :: r2 => if d = 34 then (match quoteL r2 with
        | none => none
        | some (t, n) => some (34 :: t, n + 2)) else some ([], 1))
    else if printB (by8 c) = true then (match quoteL r with
      | none => none
      | some (t, n) => some (c :: t, n + 1)) else none
def quotesL (l : List UInt8) : Rd := match quoteL (l.drop 1) with
  | none => ⟨61, none, 0⟩
  | some (t, n) => ⟨0, some (7, strOf t, false), n + 1⟩
def readL (l : List UInt8) : Rd :=
  if classI (hd l) = 1 then ⟨0, none, 1⟩ else if classI (hd l) = 2 then commentsL l else if classI (hd l) = 3 then bracketsL l
  else if classI (hd l) = 4 then numeralsL l else if classI (hd l) = 5 then hashesL l else if classI (hd l) = 6 then quotesL l
  else if classI (hd l) = 7 then barsL l else if classI (hd l) = 8 then colonsL l else if classI (hd l) = 9 then wordsL l else ⟨60, none, 0⟩
theorem words_L (s : ByteArray) (x : Nat) : wordsR s x = wordsL (from_ s x) := by
  unfold wordsR wordsL
  rw [runN_span, extract_from, bare_L]
theorem colons_L (s : ByteArray) (x : Nat) : colonsR s x = colonsL (from_ s x) := by
  unfold colonsR colonsL
  rw [runN_span, extract_from, bare_L, from_drop]
theorem hd_pos {s : ByteArray} {x : Nat} (h : hd (from_ s x) ≠ 0) : x < s.size := by
  rcases Nat.lt_or_ge x s.size with h1 | h1
  · exact h1
  · rw [from_nil h1] at h; exact absurd rfl h
theorem bars_L (s : ByteArray) (x : Nat) : barsR s x = barsL (from_ s x) := by
  unfold barsR barsL
  rw [runN_span, extract_from, from_drop, from_drop]
  have e : (x : Int) + 1 + (spanN barB (from_ s (x + 1)) : Nat) = ((x + (1 + spanN barB (from_ s (x + 1))) : Nat) : Int) := by omega
  rw [e, bt_from]
  by_cases h : hd (from_ s (x + (1 + spanN barB (from_ s (x + 1))))) = 124
  · have := hd_pos (s := s) (x := x + (1 + spanN barB (from_ s (x + 1)))) (by rw [h]; decide)
    rw [if_pos ⟨by omega, h⟩, if_pos h]
  · rw [if_neg (fun k => h k.2), if_neg h]
theorem num_L (s : ByteArray) (x n : Nat) (ok : Bool) : numR s x n ok = numL (from_ s x) n ok := by
  unfold numR numL
  rw [from_drop, from_drop, extract_from, extract_from, bare_L, bare_L, runN_span]
  have e : (x : Int) + n = ((x + n : Nat) : Int) := by omega
  rw [e, bt_from]
  by_cases h : hd (from_ s (x + n)) = 46
  · have := hd_pos (s := s) (x := x + n) (by rw [h]; decide)
    rw [if_pos ⟨this, h⟩, if_pos h]; rfl
  · rw [if_neg (fun k => h k.2), if_neg h]
theorem numerals_L (s : ByteArray) (x : Nat) : numeralsR s x = numeralsL (from_ s x) := by
  unfold numeralsR numeralsL
  rw [num_L, runN_span]
  unfold numOk numOkL
  rw [bt_from]
theorem low_str (l : List UInt8) : lowS (strOf l) = strOf (Lib.toLowerA l) := by
  unfold lowS strOf
  simp
theorem hash_L (s : ByteArray) (x : Nat) (k : Int) (n : Nat) : hashK s x k n = hashL (from_ s x) k n := by
  unfold hashK hashL
  rw [extract_from, low_str, bare_L, from_drop]
theorem hashes_L (s : ByteArray) (x : Nat) : hashesR s x = hashesL (from_ s x) := by
  unfold hashesR hashesL
  have e : (x : Int) + 1 = ((x + 1 : Nat) : Int) := by omega
  rw [from_drop, from_drop, runN_span, runN_span, hash_L, hash_L, e, bt_from]
  by_cases h : x + 1 < s.size
  · rw [if_pos h]
  · rw [if_neg h, from_nil (s := s) (x := x + 1) (by omega)]
    rfl
theorem span_take (p : Int → Bool) : ∀ l : List UInt8, (l.take (spanN p l)).all (fun c => p (by8 c)) = true
  | [] => rfl
  | c :: r => by
    rw [spanN]
    split
    · rename_i h
      rw [List.take_succ_cons, List.all_cons, h, span_take p r]; rfl
    · rfl
theorem span_le (p : Int → Bool) : ∀ l : List UInt8, spanN p l ≤ l.length
  | [] => Nat.le_refl _
  | c :: r => by
    rw [spanN]
    have := span_le p r
    split
    · rw [List.length_cons]; omega
    · omega
theorem span_next (p : Int → Bool) : ∀ l : List UInt8, l.drop (spanN p l) = [] ∨ p (hd (l.drop (spanN p l))) = false
  | [] => .inl rfl
  | c :: r => by
    rw [spanN]
    split
    · rename_i h
      rw [List.drop_succ_cons]
      exact span_next p r
    · rename_i h
      right
      simpa [hd] using h
theorem span_all (p : Int → Bool) (r : List UInt8) (hr : r = [] ∨ p (hd r) = false) : ∀ a : List UInt8, a.all (fun c => p (by8 c)) = true → spanN p (a ++ r) = a.length
  | [], _ => by
    rw [List.nil_append]
    rcases hr with rfl | hr
    · rfl
    · cases r with
      | nil => rfl
      | cons c r => rw [spanN, if_neg (by simpa [hd] using hr)]; rfl
  | c :: a, h => by
    rw [List.all_cons, Bool.and_eq_true] at h
    rw [List.cons_append, spanN, if_pos h.1, span_all p r hr a h.2, List.length_cons]
theorem quoteL_print {c : UInt8} {r : List UInt8} (h : ¬ c = 34) (hp : printB (by8 c) = true) : quoteL (c :: r) = (quoteL r).map (fun q => (c :: q.1, q.2 + 1)) := by
  rw [quoteL.eq_def]
  simp only [if_neg h, if_pos hp]
  cases quoteL r <;> rfl
theorem quoteL_bad {c : UInt8} {r : List UInt8} (h : ¬ c = 34) (hp : ¬ printB (by8 c) = true) : quoteL (c :: r) = none := by
  rw [quoteL.eq_def]
  simp only [if_neg h, if_neg hp]
theorem quoteL_two (r : List UInt8) : quoteL (34 :: 34 :: r) = (quoteL r).map (fun q => (34 :: q.1, q.2 + 2)) := by
  rw [quoteL.eq_def]
  simp only [if_true]
  cases quoteL r <;> rfl
theorem quoteL_end {r : List UInt8} (h : ¬ hd r = 34) : quoteL (34 :: r) = some ([], 1) := by
  rw [quoteL.eq_def]
  simp only [if_true]
  cases r with
  | nil => rfl
  | cons d r => exact if_neg (fun e => h (by rw [e]; rfl))
theorem quote_run (r : List UInt8) : ∀ a : List UInt8, a.all (fun c => quoteB (by8 c)) = true → quoteL (a ++ r) = (quoteL r).map (fun q => (a ++ q.1, q.2 + a.length))
  | [], _ => by
    rw [List.nil_append]
    cases quoteL r <;> rfl
  | c :: a, h => by
    rw [List.all_cons, Bool.and_eq_true] at h
    have h1 := h.1
    unfold quoteB at h1
    rw [Bool.and_eq_true] at h1
    have hne : ¬ c = 34 := by
      rintro rfl
      exact absurd h1.1 (by decide)
    rw [List.cons_append, quoteL_print hne h1.2, quote_run r a h.2]
    cases quoteL r with
    | none => rfl
    | some q => simp [Nat.add_assoc]
theorem by8_34 {c : UInt8} : by8 c = 34 ↔ c = 34 := by
  unfold by8
  constructor
  · intro h
    apply UInt8.toNat_inj.1
    simpa using (by omega : c.toNat = 34)
  · rintro rfl; rfl
theorem hd_34 {l : List UInt8} (h : hd l = 34) : ∃ r, l = 34 :: r := by
  cases l with
  | nil => exact absurd h (by decide)
  | cons c r => exact ⟨r, by rw [by8_34.1 h]⟩
theorem quoteGo_L (s : ByteArray) : ∀ (d i : Nat) (acc : List UInt8), s.size - i < d → quoteGo s d i acc = (quoteL (from_ s i)).map (fun q => (acc ++ q.1, i + q.2))
  | 0, i, acc, h => by omega
  | d + 1, i, acc, h => by
    rw [quoteGo, runN_span]
    obtain ⟨n, hn⟩ : ∃ n, n = spanN quoteB (from_ s i) := ⟨_, rfl⟩
    have h1 := span_take quoteB (from_ s i)
    have h2 := span_next quoteB (from_ s i)
    have h3 := span_le quoteB (from_ s i)
    rw [← hn] at h1 h2 h3 ⊢
    rw [from_length] at h3
    rw [from_drop] at h2
    have hl : from_ s i = (from_ s i).take n ++ from_ s (i + n) := by rw [← from_drop, List.take_append_drop]
    have hq := quote_run (from_ s (i + n)) ((from_ s i).take n) h1
    rw [← hl] at hq
    have hlen : ((from_ s i).take n).length = n := by rw [List.length_take, from_length]; omega
    rw [hlen] at hq
    rw [hq, bt_from, bt_from, extract_from]
    have htx : txt acc (strOf ((from_ s i).take n)) = acc ++ (from_ s i).take n := by simp [txt, strOf]
    rw [htx]
    by_cases hb : hd (from_ s (i + n)) = 34
    · have hin := hd_pos (s := s) (x := i + n) (by rw [hb]; decide)
      obtain ⟨c, hc, -⟩ := from_cons hin
      obtain ⟨r, hr⟩ := hd_34 hb
      have hrr : r = from_ s (i + n + 1) := by rw [hc] at hr; injection hr with _ hr; exact hr.symm
      rw [if_pos ⟨hin, hb⟩, hr]
      subst hrr
      by_cases hb2 : hd (from_ s (i + n + 1)) = 34
      · have hin2 := hd_pos (s := s) (x := i + n + 1) (by rw [hb2]; decide)
        obtain ⟨c2, hc2, -⟩ := from_cons hin2
        obtain ⟨r2, hr2⟩ := hd_34 hb2
        have hrr2 : r2 = from_ s (i + n + 2) := by rw [hc2] at hr2; injection hr2 with _ hr2; exact hr2.symm
        rw [if_pos ⟨hin2, hb2⟩, hr2]
        subst hrr2
        rw [quoteGo_L s d (i + n + 2) _ (by omega), quoteL_two]
        cases quoteL (from_ s (i + n + 2)) with
        | none => rfl
        | some q => simp only [Option.map_some, List.append_assoc, List.cons_append, List.nil_append]; congr 2; omega
      · rw [if_neg (fun k => hb2 k.2), quoteL_end hb2]
        simp only [Option.map_some, List.append_nil]
        congr 2; omega
    · rw [if_neg (fun k => hb k.2)]
      cases hr : from_ s (i + n) with
      | nil => rfl
      | cons c r =>
        rw [hr] at h2 hb
        have hne : ¬ c = 34 := fun e => hb (by rw [e]; rfl)
        have hpr : ¬ printB (by8 c) = true := by
          rcases h2 with h2 | h2
          · cases h2
          · intro hp
            have : quoteB (by8 c) = false := h2
            unfold quoteB at this
            rw [hp, Bool.and_true] at this
            have h4 : by8 c = 34 := by simpa using this
            exact hb h4
        rw [quoteL_bad hne hpr]
        rfl
theorem quotes_L (s : ByteArray) (x : Nat) : quotesR s x = quotesL (from_ s x) := by
  unfold quotesR quotesL
  rw [from_drop, quoteGo_L s (s.size + 1) (x + 1) [] (by omega)]
  cases quoteL (from_ s (x + 1)) with
  | none => rfl
  | some q => simp only [Option.map_some, List.nil_append]; congr 1; omega
theorem readOne_L (s : ByteArray) (x : Nat) : readOne s x = readL (from_ s x) := by
  unfold readOne readL
  rw [bt_from, numerals_L, hashes_L, quotes_L, bars_L, colons_L, words_L]
  unfold blanksR commentsR commentsL bracketsR bracketsL
  rw [runN_span, bt_from]
  rfl
/-! ### what a token looks like -/
abbrev allP (p : Int → Bool) (l : List UInt8) : Bool := l.all fun c => p (by8 c)
theorem by8_all {P : Int → Prop} (h : ∀ c : Fin 256, P ((c.val : Nat) : Int)) (c : UInt8) : P (by8 c) := h ⟨c.toNat, c.toNat_lt⟩
theorem end_facts : ∀ c : UInt8, endC (classI (by8 c)) = true → simpleB (by8 c) = false ∧ digitB (by8 c) = false ∧ hexB (by8 c) = false ∧ binB (by8 c) = false ∧ by8 c ≠ 46 :=
  by8_all (P := fun c => endC (classI c) = true → simpleB c = false ∧ digitB c = false ∧ hexB c = false ∧ binB c = false ∧ c ≠ 46) (by decide +kernel)
theorem class_facts : ∀ c : UInt8, (digitB (by8 c) = true → classI (by8 c) = 4) ∧ (classI (by8 c) = 4 → digitB (by8 c) = true) ∧ (classI (by8 c) = 9 → simpleB (by8 c) = true) ∧ (classI (by8 c) = 3 → by8 c = 40 ∨ by8 c = 41) ∧ (classI (by8 c) = 5 → by8 c = 35) ∧ (classI (by8 c) = 6 → by8 c = 34) ∧ (classI (by8 c) = 7 → by8 c = 124) ∧ (classI (by8 c) = 8 → by8 c = 58) ∧ (classI (by8 c) = 2 → by8 c = 59) :=
  by8_all (P := fun c => (digitB c = true → classI c = 4) ∧ (classI c = 4 → digitB c = true) ∧ (classI c = 9 → simpleB c = true) ∧ (classI c = 3 → c = 40 ∨ c = 41) ∧ (classI c = 5 → c = 35) ∧ (classI c = 6 → c = 34) ∧ (classI c = 7 → c = 124) ∧ (classI c = 8 → c = 58) ∧ (classI c = 2 → c = 59)) (by decide +kernel)
theorem by8_inj {c d : UInt8} (h : by8 c = by8 d) : c = d := by
  unfold by8 at h
  exact UInt8.toNat_inj.1 (by omega)
/-- The digits ahead of the point. -/
def numWell (w : List UInt8) : Prop := w ≠ [] ∧ allP digitB w = true ∧ (w.length = 1 ∨ hd w ≠ 48)
inductive Lex : List UInt8 → Int → List UInt8 → Bool → Prop
  | opens : Lex [40] 1 [40] false
  | closes : Lex [41] 2 [41] false
  | num (w : List UInt8) : numWell w → Lex w 3 w false
  | dec (a b : List UInt8) : numWell a → b ≠ [] → allP digitB b = true → Lex (a ++ 46 :: b) 4 (a ++ 46 :: b) false
  | hex (h : List UInt8) : h ≠ [] → allP hexB h = true → Lex (35 :: 120 :: h) 5 (Lib.toLowerA h) false
  | bin (h : List UInt8) : h ≠ [] → allP binB h = true → Lex (35 :: 98 :: h) 6 (Lib.toLowerA h) false
  | str (t : List UInt8) : allP printB t = true → Lex (34 :: (dblL t ++ [34])) 7 t false
  | sym (w : List UInt8) : allP simpleB w = true → classI (hd w) = 9 → Lex w 8 w false
  | bar (t : List UInt8) : allP barB t = true → Lex (124 :: (t ++ [124])) 8 t true
  | key (t : List UInt8) : t ≠ [] → allP simpleB t = true → Lex (58 :: t) 9 t false
/-- May this stand behind the token? -/
def folB (k : Int) (q : Bool) (rest : List UInt8) : Bool := if k = 1 ∨ k = 2 ∨ q = true then true else if k = 7 then hd rest != 34 else endL rest
theorem end_stop {rest : List UInt8} (h : endL rest = true) {p : Int → Bool} (hp : ∀ c : UInt8, endC (classI (by8 c)) = true → p (by8 c) = false) : rest = [] ∨ p (hd rest) = false := by
  cases rest with
  | nil => exact .inl rfl
  | cons c r => exact .inr (hp c h)
theorem quote_dbl (rest : List UInt8) (hr : hd rest ≠ 34) : ∀ t : List UInt8, allP printB t = true → quoteL (dblL t ++ 34 :: rest) = some (t, (dblL t).length + 1)
  | [], _ => by
    show quoteL (34 :: rest) = _
    rw [quoteL_end hr]
    rfl
  | c :: t, h => by
    rw [allP, List.all_cons, Bool.and_eq_true] at h
    by_cases hc : c = 34
    · subst hc
      rw [dblL, if_pos rfl, List.cons_append, List.cons_append, quoteL_two, quote_dbl rest hr t h.2]
      rfl
    · rw [dblL, if_neg hc, List.cons_append, quoteL_print hc h.1, quote_dbl rest hr t h.2]
      rfl
theorem bare_good {w rest : List UInt8} {k : Int} {tx : List UInt8} (hr : endL rest = true) {n : Nat} (hn : n = w.length) : bareL (w ++ rest) k tx n true = ⟨0, some (k, strOf tx, false), w.length⟩ := by
  subst hn
  unfold bareL
  rw [List.drop_left, hr]
  rfl
theorem read1 {l : List UInt8} (h : classI (hd l) = 1) : readL l = ⟨0, none, 1⟩ := by
  unfold readL; rw [h]; rfl
theorem read2 {l : List UInt8} (h : classI (hd l) = 2) : readL l = commentsL l := by
  unfold readL; rw [h]; rfl
theorem read3 {l : List UInt8} (h : classI (hd l) = 3) : readL l = bracketsL l := by
  unfold readL; rw [h]; rfl
theorem read4 {l : List UInt8} (h : classI (hd l) = 4) : readL l = numeralsL l := by
  unfold readL; rw [h]; rfl
theorem read5 {l : List UInt8} (h : classI (hd l) = 5) : readL l = hashesL l := by
  unfold readL; rw [h]; rfl
theorem read6 {l : List UInt8} (h : classI (hd l) = 6) : readL l = quotesL l := by
  unfold readL; rw [h]; rfl
theorem read7 {l : List UInt8} (h : classI (hd l) = 7) : readL l = barsL l := by
  unfold readL; rw [h]; rfl
theorem read8 {l : List UInt8} (h : classI (hd l) = 8) : readL l = colonsL l := by
  unfold readL; rw [h]; rfl
theorem read9 {l : List UInt8} (h : classI (hd l) = 9) : readL l = wordsL l := by
  unfold readL; rw [h]; rfl
theorem num_lead {w : List UInt8} (h : numWell w) (r : List UInt8) : classI (hd (w ++ r)) = 4 ∧ numOkL (w ++ r) w.length = true := by
  obtain ⟨h1, h2, h3⟩ := h
  cases w with
  | nil => exact absurd rfl h1
  | cons c w =>
    rw [allP, List.all_cons, Bool.and_eq_true] at h2
    refine ⟨(class_facts c).1 h2.1, ?_⟩
    unfold numOkL
    rw [Bool.or_eq_true]
    rcases h3 with h3 | h3
    · left; rw [h3]; rfl
    · right; exact bne_iff_ne.2 h3
/-- What looks like a token is read as it. -/
theorem lex_read {w : List UInt8} {k : Int} {tx : List UInt8} {q : Bool} (h : Lex w k tx q) (rest : List UInt8) (hf : folB k q rest = true) : readL (w ++ rest) = ⟨0, some (k, strOf tx, q), w.length⟩ := by
  cases h with
  | opens => rfl
  | closes => rfl
  | num w h =>
    have hr : endL rest = true := hf
    obtain ⟨h1, h2⟩ := num_lead h rest
    rw [read4 h1]
    have hs : spanN digitB (w ++ rest) = w.length := span_all _ _ (end_stop hr (fun c hc => (end_facts c hc).2.1)) w h.2.1
    unfold numeralsL
    rw [hs, h2]
    unfold numL
    rw [List.drop_left, if_neg (by
      cases rest with
      | nil => decide
      | cons c r => exact (end_facts c hr).2.2.2.2), List.take_left, bare_good hr rfl]
  | dec a b h hb0 hb =>
    have hr : endL rest = true := hf
    have e : (a ++ 46 :: b) ++ rest = a ++ (46 :: (b ++ rest)) := by simp
    obtain ⟨h1, h2⟩ := num_lead h (46 :: (b ++ rest))
    rw [e, read4 h1]
    have hs : spanN digitB (a ++ 46 :: (b ++ rest)) = a.length := span_all _ _ (.inr (show digitB (by8 46) = false by decide)) a h.2.1
    have hs2 : spanN digitB (b ++ rest) = b.length := span_all _ _ (end_stop hr (fun c hc => (end_facts c hc).2.1)) b hb
    have hd2 : (a ++ 46 :: (b ++ rest)).drop (a.length + 1) = b ++ rest := by
      rw [← List.drop_drop, List.drop_left]; rfl
    have hb1 : 0 < b.length := List.length_pos_iff.2 hb0
    unfold numeralsL
    rw [hs, h2]
    unfold numL
    rw [List.drop_left, if_pos (show hd (46 :: (b ++ rest)) = 46 from rfl), hd2, hs2, decide_eq_true hb1, ← e]
    have hlen : a.length + (1 + b.length) = (a ++ 46 :: b).length := by simp; omega
    rw [hlen, List.take_left]
    exact bare_good hr rfl
  | hex h h0 hh =>
    have hr : endL rest = true := hf
    have hs : spanN hexB (h ++ rest) = h.length := span_all _ _ (end_stop hr (fun c hc => (end_facts c hc).2.2.1)) h hh
    have hb1 : 0 < h.length := List.length_pos_iff.2 h0
    rw [read5 rfl]
    unfold hashesL
    rw [if_pos (show hd (List.drop 1 (35 :: 120 :: h ++ rest)) = 120 from rfl)]
    show hashL _ 5 (spanN hexB (h ++ rest)) = _
    unfold hashL
    rw [hs, decide_eq_true hb1]
    show bareL _ 5 (Lib.toLowerA ((h ++ rest).take h.length)) _ _ = _
    rw [List.take_left]
    exact bare_good hr rfl
  | bin h h0 hh =>
    have hr : endL rest = true := hf
    have hs : spanN binB (h ++ rest) = h.length := span_all _ _ (end_stop hr (fun c hc => (end_facts c hc).2.2.2.1)) h hh
    have hb1 : 0 < h.length := List.length_pos_iff.2 h0
    rw [read5 rfl]
    unfold hashesL
    rw [if_neg (show ¬ hd (List.drop 1 (35 :: 98 :: h ++ rest)) = 120 from (show ¬ by8 98 = 120 by decide)), if_pos (show hd (List.drop 1 (35 :: 98 :: h ++ rest)) = 98 from rfl)]
    show hashL _ 6 (spanN binB (h ++ rest)) = _
    unfold hashL
    rw [hs, decide_eq_true hb1]
    show bareL _ 6 (Lib.toLowerA ((h ++ rest).take h.length)) _ _ = _
    rw [List.take_left]
    exact bare_good hr rfl
  | str t ht =>
    have hr : hd rest ≠ 34 := bne_iff_ne.1 hf
    rw [read6 rfl]
    unfold quotesL
    show (match quoteL ((dblL tx ++ [34]) ++ rest) with | none => _ | some (t, n) => _) = _
    rw [List.append_assoc, List.singleton_append, quote_dbl rest hr tx ht]
    simp
  | sym w hw hc =>
    have hr : endL rest = true := hf
    have hs : spanN simpleB (w ++ rest) = w.length := span_all _ _ (end_stop hr (fun c hc => (end_facts c hc).1)) w hw
    have hc2 : classI (hd (w ++ rest)) = 9 := by
      cases w with
      | nil => exact absurd hc (by decide)
      | cons c w => exact hc
    rw [read9 hc2]
    unfold wordsL
    rw [hs, List.take_left]
    exact bare_good hr rfl
  | bar t ht =>
    rw [read7 rfl]
    have e : (124 :: (tx ++ [124]) ++ rest) = 124 :: (tx ++ 124 :: rest) := by simp
    have hs : spanN barB (tx ++ 124 :: rest) = tx.length := span_all _ _ (.inr (show barB (by8 124) = false by decide)) tx ht
    rw [e]
    unfold barsL
    show (if hd (List.drop (1 + spanN barB (tx ++ 124 :: rest)) (124 :: (tx ++ 124 :: rest))) = 124 then (⟨0, some (8, strOf ((tx ++ 124 :: rest).take (spanN barB (tx ++ 124 :: rest))), true), spanN barB (tx ++ 124 :: rest) + 2⟩ : Rd) else _) = _
    rw [hs, Nat.add_comm 1, List.drop_succ_cons, List.drop_left, if_pos (show hd (124 :: rest) = 124 from rfl), List.take_left]
    simp
  | key t h0 ht =>
    have hr : endL rest = true := hf
    have hs : spanN simpleB (tx ++ rest) = tx.length := span_all _ _ (end_stop hr (fun c hc => (end_facts c hc).1)) tx ht
    have hb1 : 0 < tx.length := List.length_pos_iff.2 h0
    rw [read8 rfl]
    unfold colonsL
    show bareL (58 :: (tx ++ rest)) 9 ((tx ++ rest).take (spanN simpleB (tx ++ rest))) (spanN simpleB (tx ++ rest) + 1) (decide (0 < spanN simpleB (tx ++ rest))) = _
    rw [hs, decide_eq_true hb1, List.take_left]
    exact bare_good (w := 58 :: tx) hr rfl
theorem quote_back : ∀ (d : Nat) (l t : List UInt8) (n : Nat), l.length < d → quoteL l = some (t, n) → ∃ rest, l = dblL t ++ 34 :: rest ∧ n = (dblL t).length + 1 ∧ allP printB t = true ∧ hd rest ≠ 34
  | 0, l, t, n, hd0, h => by omega
  | d + 1, [], t, n, hd0, h => by rw [quoteL.eq_def] at h; cases h
  | d + 1, c :: r, t, n, hd0, h => by
    rw [List.length_cons] at hd0
    by_cases hc : c = 34
    · subst hc
      by_cases h2 : hd r = 34
      · obtain ⟨r2, rfl⟩ := hd_34 h2
        rw [quoteL_two] at h
        cases hq : quoteL r2 with
        | none => rw [hq] at h; cases h
        | some p =>
          obtain ⟨t2, n2⟩ := p
          rw [hq] at h
          injection h with h
          injection h with h3 h4
          subst h3 h4
          obtain ⟨rest, e1, e2, e3, e4⟩ := quote_back d r2 t2 n2 (by rw [List.length_cons] at hd0; omega) hq
          subst e1 e2
          refine ⟨rest, by rw [dblL, if_pos rfl]; rfl, by rw [dblL, if_pos rfl]; simp, ?_, e4⟩
          rw [allP, List.all_cons, Bool.and_eq_true]
          exact ⟨by decide, e3⟩
      · rw [quoteL_end h2] at h
        injection h with h
        injection h with h3 h4
        subst h3 h4
        exact ⟨r, rfl, rfl, rfl, h2⟩
    · by_cases hp : printB (by8 c) = true
      · rw [quoteL_print hc hp] at h
        cases hq : quoteL r with
        | none => rw [hq] at h; cases h
        | some p =>
          obtain ⟨t2, n2⟩ := p
          rw [hq] at h
          injection h with h
          injection h with h3 h4
          subst h3 h4
          obtain ⟨rest, e1, e2, e3, e4⟩ := quote_back d r t2 n2 (by omega) hq
          subst e1 e2
          refine ⟨rest, by rw [dblL, if_neg hc]; rfl, by rw [dblL, if_neg hc]; simp, ?_, e4⟩
          rw [allP, List.all_cons, Bool.and_eq_true]
          exact ⟨hp, e3⟩
      · rw [quoteL_bad hc hp] at h; cases h
/-- What was read: it looks like a token, and what stands behind may stand there. -/
structure Read (l : List UInt8) (k : Int) (tx : ByteArray) (q : Bool) (n : Nat) : Prop where
  told : ∃ w rest txl, l = w ++ rest ∧ w.length = n ∧ tx = strOf txl ∧ Lex w k txl q ∧ folB k q rest = true
theorem bare_back {l : List UInt8} {k0 k : Int} {tx0 : List UInt8} {tx : ByteArray} {n0 n : Nat} {ok q : Bool} (h : bareL l k0 tx0 n0 ok = ⟨0, some (k, tx, q), n⟩) : ok = true ∧ endL (l.drop n0) = true ∧ k = k0 ∧ tx = strOf tx0 ∧ q = false ∧ n = n0 := by
  unfold bareL at h
  split at h
  · rename_i h1
    rw [Bool.and_eq_true] at h1
    injection h with _ h2 h3
    injection h2 with h2
    injection h2 with h4 h5
    injection h5 with h5 h6
    exact ⟨h1.1, h1.2, h4.symm, h5.symm, h6.symm, h3.symm⟩
  · injection h with h1 _ _
    cases h1
theorem read_of_bare {l w : List UInt8} {k : Int} {tx : List UInt8} {n : Nat} (hw : w = l.take n) (hn : n ≤ l.length) (hl : Lex w k tx false) (hk : k ≠ 7) (he : endL (l.drop n) = true) : Read l k (strOf tx) false n := by
  refine ⟨⟨w, l.drop n, tx, ?_, ?_, rfl, hl, ?_⟩⟩
  · rw [hw, List.take_append_drop]
  · rw [hw, List.length_take]; omega
  · unfold folB
    split
    · rfl
    · exact he
theorem span_drop_le (p : Int → Bool) (l : List UInt8) (j : Nat) (hj : j ≤ l.length) : j + spanN p (l.drop j) ≤ l.length := by
  have := span_le p (l.drop j)
  rw [List.length_drop] at this
  omega
theorem hd_cons_of {l : List UInt8} {v : Int} (h : hd l = v) (hv : v ≠ 0) : ∃ c r, l = c :: r ∧ by8 c = v := by
  cases l with
  | nil => exact absurd h.symm hv
  | cons c r => exact ⟨c, r, rfl, h⟩
theorem num_well {l : List UInt8} (h : classI (hd l) = 4) (hok : numOkL l (spanN digitB l) = true) : numWell (l.take (spanN digitB l)) := by
  cases l with
  | nil => exact absurd h (by decide)
  | cons c r =>
    have hc : digitB (by8 c) = true := (class_facts c).2.1 h
    have hn : spanN digitB (c :: r) = spanN digitB r + 1 := by rw [spanN, if_pos hc]
    refine ⟨by rw [hn, List.take_succ_cons]; simp, span_take _ _, ?_⟩
    unfold numOkL at hok
    rw [Bool.or_eq_true] at hok
    rcases hok with h1 | h1
    · left
      have := span_le digitB (c :: r)
      rw [List.length_take]
      have := of_decide_eq_true h1
      omega
    · right
      rw [hn, List.take_succ_cons]
      exact bne_iff_ne.1 h1
theorem read_lex {l : List UInt8} {k : Int} {tx : ByteArray} {q : Bool} {n : Nat} (h : readL l = ⟨0, some (k, tx, q), n⟩) : Read l k tx q n := by
  rcases class_cases (hd l) with hc | hc | hc | hc | hc | hc | hc | hc | hc | hc
  · unfold readL at h; rw [hc] at h
    have h : (⟨60, none, 0⟩ : Rd) = _ := h
    injection h with h1; cases h1
  · rw [read1 hc] at h; injection h with _ h2; cases h2
  · rw [read2 hc] at h; unfold commentsL at h; injection h with _ h2; cases h2
  · rw [read3 hc] at h
    unfold bracketsL at h
    split at h
    · rename_i h1
      obtain ⟨c, r, rfl, e⟩ := hd_cons_of h1 (by decide)
      obtain rfl : c = 41 := by8_inj e
      injection h with _ h2 h3
      injection h2 with h2; injection h2 with h4 h5; injection h5 with h5 h6
      subst h3 h4 h5 h6
      exact ⟨⟨[41], r, [41], rfl, rfl, rfl, .closes, rfl⟩⟩
    · rename_i h1
      have h0 : hd l ≠ 0 := by
        intro h0; rw [h0] at hc; exact absurd hc (by decide)
      obtain ⟨c, r, rfl, e⟩ := hd_cons_of rfl h0
      obtain rfl : c = 40 := by
        rcases (class_facts c).2.2.2.1 hc with h3 | h3
        · exact by8_inj h3
        · exact absurd h3 h1
      injection h with _ h2 h3
      injection h2 with h2; injection h2 with h4 h5; injection h5 with h5 h6
      subst h3 h4 h5 h6
      exact ⟨⟨[40], r, [40], rfl, rfl, rfl, .opens, rfl⟩⟩
  · rw [read4 hc] at h
    unfold numeralsL numL at h
    split at h
    · rename_i h46
      obtain ⟨h1, h2, rfl, rfl, rfl, rfl⟩ := bare_back h
      rw [Bool.and_eq_true] at h1
      have hw := num_well hc h1.1
      have hm := of_decide_eq_true h1.2
      have hle := span_le digitB l
      obtain ⟨c, r, hcr, e⟩ := hd_cons_of h46 (by decide)
      obtain rfl : c = 46 := by8_inj e
      obtain ⟨m, hmm⟩ : ∃ m, m = spanN digitB l := ⟨_, rfl⟩
      rw [← hmm] at hw hcr hle h2 hm ⊢
      have hr : l.drop (m + 1) = r := by rw [← List.drop_drop, hcr]; rfl
      rw [hr] at hm h2 ⊢
      have hlen : l.length = m + (1 + r.length) := by
        have := congrArg List.length hcr
        rw [List.length_drop, List.length_cons] at this
        omega
      have htk : l.take (m + (1 + spanN digitB r)) = l.take m ++ 46 :: r.take (spanN digitB r) := by
        rw [List.take_add, hcr, Nat.add_comm 1, List.take_succ_cons]
      have hle2 := span_le digitB r
      refine read_of_bare rfl (by omega) ?_ (by decide) h2
      rw [htk]
      refine .dec _ _ hw ?_ (span_take _ _)
      intro h0
      have := congrArg List.length h0
      rw [List.length_take, List.length_nil] at this
      omega
    · obtain ⟨h1, h2, rfl, rfl, rfl, rfl⟩ := bare_back h
      exact read_of_bare rfl (span_le _ _) (.num _ (num_well hc h1)) (by decide) h2
  · rw [read5 hc] at h
    obtain ⟨c, r, rfl, e⟩ := hd_cons_of (l := l) rfl (by intro h0; rw [h0] at hc; exact absurd hc (by decide))
    obtain rfl : c = 35 := by8_inj ((class_facts c).2.2.2.2.1 hc)
    unfold hashesL at h
    split at h
    · rename_i h1
      obtain ⟨c, r, hr, e9⟩ := hd_cons_of h1 (by decide)
      have hr : _ = c :: r := hr
      subst hr
      obtain rfl : c = 120 := by8_inj e9
      obtain ⟨h1, h2, rfl, rfl, rfl, rfl⟩ := bare_back h
      have hm := of_decide_eq_true h1
      have hle := span_le hexB r
      have hm : 0 < spanN hexB r := hm
      refine read_of_bare rfl (by show spanN hexB r + 2 ≤ r.length + 1 + 1; omega) ?_ (by decide) h2
      show Lex (35 :: 120 :: r.take (spanN hexB r)) 5 (Lib.toLowerA (r.take (spanN hexB r))) false
      refine .hex _ ?_ (span_take _ _)
      intro h0
      have := congrArg List.length h0
      rw [List.length_take, List.length_nil] at this
      omega
    · split at h
      · rename_i h1
        obtain ⟨c, r, hr, e9⟩ := hd_cons_of h1 (by decide)
        have hr : _ = c :: r := hr
        subst hr
        obtain rfl : c = 98 := by8_inj e9
        obtain ⟨h1, h2, rfl, rfl, rfl, rfl⟩ := bare_back h
        have hm := of_decide_eq_true h1
        have hle := span_le binB r
        have hm : 0 < spanN binB r := hm
        refine read_of_bare rfl (by show spanN binB r + 2 ≤ r.length + 1 + 1; omega) ?_ (by decide) h2
        show Lex (35 :: 98 :: r.take (spanN binB r)) 6 (Lib.toLowerA (r.take (spanN binB r))) false
        refine .bin _ ?_ (span_take _ _)
        intro h0
        have := congrArg List.length h0
        rw [List.length_take, List.length_nil] at this
        omega
      · injection h with h1; cases h1
  · rw [read6 hc] at h
    obtain ⟨c, r, rfl, e⟩ := hd_cons_of (l := l) rfl (by intro h0; rw [h0] at hc; exact absurd hc (by decide))
    obtain rfl : c = 34 := by8_inj ((class_facts c).2.2.2.2.2.1 hc)
    unfold quotesL at h
    have e1 : (34 :: r : List UInt8).drop 1 = r := rfl
    rw [e1] at h
    cases hq : quoteL r with
    | none => rw [hq] at h; injection h with h1; cases h1
    | some p =>
      obtain ⟨t, m⟩ := p
      rw [hq] at h
      injection h with _ h2 h3
      injection h2 with h2; injection h2 with h4 h5; injection h5 with h5 h6
      subst h3 h4 h5 h6
      obtain ⟨rest, e1, e2, e3, e4⟩ := quote_back _ r t m (Nat.lt_succ_self _) hq
      subst e1 e2
      exact ⟨⟨34 :: (dblL t ++ [34]), rest, t, by simp, by simp, rfl, .str t e3, bne_iff_ne.2 e4⟩⟩
  · rw [read7 hc] at h
    obtain ⟨c, r, rfl, e⟩ := hd_cons_of (l := l) rfl (by intro h0; rw [h0] at hc; exact absurd hc (by decide))
    obtain rfl : c = 124 := by8_inj ((class_facts c).2.2.2.2.2.2.1 hc)
    unfold barsL at h
    have e1 : (124 :: r : List UInt8).drop 1 = r := rfl
    rw [e1, Nat.add_comm 1, List.drop_succ_cons] at h
    split at h
    · rename_i h1
      obtain ⟨c, r2, hr, e⟩ := hd_cons_of h1 (by decide)
      obtain rfl : c = 124 := by8_inj e
      injection h with _ h2 h3
      injection h2 with h2; injection h2 with h4 h5; injection h5 with h5 h6
      subst h3 h4 h5 h6
      have hrr : r = r.take (spanN barB r) ++ 124 :: r2 := by rw [← hr, List.take_append_drop]
      have hle := span_le barB r
      refine ⟨⟨124 :: (r.take (spanN barB r) ++ [124]), r2, r.take (spanN barB r), ?_, ?_, rfl, .bar _ (span_take _ _), rfl⟩⟩
      · rw [List.cons_append, List.append_assoc, List.singleton_append, ← hrr]
      · rw [List.length_cons, List.length_append, List.length_take, List.length_singleton]; omega
    · injection h with h1; cases h1
  · rw [read8 hc] at h
    obtain ⟨c, r, rfl, e⟩ := hd_cons_of (l := l) rfl (by intro h0; rw [h0] at hc; exact absurd hc (by decide))
    obtain rfl : c = 58 := by8_inj ((class_facts c).2.2.2.2.2.2.2.1 hc)
    obtain ⟨h1, h2, rfl, rfl, rfl, rfl⟩ := bare_back h
    have hm := of_decide_eq_true h1
    have hm : 0 < spanN simpleB r := hm
    have hle := span_le simpleB r
    refine read_of_bare rfl (by show spanN simpleB r + 1 ≤ r.length + 1; omega) ?_ (by decide) h2
    show Lex (58 :: r.take (spanN simpleB r)) 9 (r.take (spanN simpleB r)) false
    refine .key _ ?_ (span_take _ _)
    intro h0
    have := congrArg List.length h0
    rw [List.length_take, List.length_nil] at this
    omega
  · rw [read9 hc] at h
    obtain ⟨c, r, rfl, e⟩ := hd_cons_of (l := l) rfl (by intro h0; rw [h0] at hc; exact absurd hc (by decide))
    obtain ⟨h1, h2, rfl, rfl, rfl, rfl⟩ := bare_back h
    refine read_of_bare rfl (span_le _ _) (.sym _ (span_take _ _) ?_) (by decide) h2
    have hs : simpleB (by8 c) = true := (class_facts c).2.2.1 hc
    rw [spanN, if_pos hs, List.take_succ_cons]
    exact hc
end
section
open Go.RowKit Go.Proofs.YthklnopfgoekeaaGreatDoorW.PrintWords Go.Proofs.YthklnopfgoekeaaGreatDoorW.PrintLast Go.Proofs.YthklnopfgoekeaaGreatDoorW.PrintMore
set_option linter.unusedVariables false

theorem strOf_list (l : List UInt8) : (strOf l).data.toList = l := by simp [strOf]
theorem strOf_data (s : ByteArray) : strOf s.data.toList = s := by
  cases s with
  | mk d => cases d; rfl
theorem strOf_inj {a b : List UInt8} (h : strOf a = strOf b) : a = b := by
  have := congrArg (fun s : ByteArray => s.data.toList) h
  simpa [strOf_list] using this
theorem from_str (l : List UInt8) (x : Nat) : from_ (strOf l) x = l.drop x := by
  unfold from_
  rw [strOf_list]
/-- A token without its place. -/
def bareT (t : S37) : Int × ByteArray × Bool := (t.f0, t.f1, t.f2)
theorem ts_split (r : Rd) (l c : Int) (ts : List S37) : r.ts l c ts = ts ++ r.ts l c [] := by
  unfold Rd.ts
  split <;> simp
theorem scan_acc (s : ByteArray) : ∀ (d x : Nat) (l c : Int) (ts : List S37), s.size - x < d → scanGo s d x l c ts = ((if (scanGo s d x l c []).2.2.2 = 0 then ts ++ (scanGo s d x l c []).1 else []), (scanGo s d x l c []).2)
  | 0, x, l, c, ts, h => by omega
  | d + 1, x, l, c, ts, h => by
    rw [scanGo, scanGo]
    by_cases hx : x < s.size
    · rw [if_pos hx, if_pos hx]
      by_cases he : (readOne s x).err = 0
      · rw [if_pos he, if_pos he]
        obtain ⟨hg, hg2⟩ := (readOne_goes s x hx).pos he
        rw [ts_split _ _ _ ts, scan_acc s d _ _ _ (ts ++ _) (by omega), scan_acc s d _ _ _ ((readOne s x).ts l c []) (by omega)]
        by_cases h0 : (scanGo s d (x + (readOne s x).n) (lc s x l c (readOne s x).n).1 (lc s x l c (readOne s x).n).2 []).2.2.2 = 0
        · simp only [if_pos h0, List.append_assoc]
        · simp only [if_neg h0]
      · rw [if_neg he, if_neg he]
        simp only [if_neg he]
    · rw [if_neg hx, if_neg hx]
      simp
/-! ### laid out -/
inductive Layout : List UInt8 → List (Int × List UInt8 × Bool) → Prop
  | nil : Layout [] []
  | blank (c : UInt8) (r : List UInt8) (ts : List (Int × List UInt8 × Bool)) : classI (by8 c) = 1 → Layout r ts → Layout (c :: r) ts
  | comment (b r : List UInt8) (ts : List (Int × List UInt8 × Bool)) : allP notNlB b = true → (r = [] ∨ hd r = 10) → Layout r ts → Layout (59 :: (b ++ r)) ts
  | tok (w : List UInt8) (k : Int) (tx : List UInt8) (q : Bool) (r : List UInt8) (ts : List (Int × List UInt8 × Bool)) : Lex w k tx q → folB k q r = true → Layout r ts → Layout (w ++ r) ((k, tx, q) :: ts)
def strT (p : Int × List UInt8 × Bool) : Int × ByteArray × Bool := (p.1, strOf p.2.1, p.2.2)
theorem lex_pos {w : List UInt8} {k : Int} {tx : List UInt8} {q : Bool} (h : Lex w k tx q) : 0 < w.length := by
  cases h with
  | opens => exact Nat.one_pos
  | closes => exact Nat.one_pos
  | num w h => exact List.length_pos_iff.2 h.1
  | dec a b h _ _ => simp; omega
  | hex h _ _ => simp
  | bin h _ _ => simp
  | str t _ => simp
  | sym w _ h =>
    cases w with
    | nil => exact absurd h (by decide)
    | cons c w => simp
  | bar t _ => simp
  | key t _ _ => simp
theorem layout_scan (s : ByteArray) : ∀ (d x : Nat) (l c : Int) (ts : List (Int × List UInt8 × Bool)), s.size - x < d → Layout (from_ s x) ts → ∃ m, scanGo s d x l c [] = (m, 0, 0, 0) ∧ m.map bareT = ts.map strT
  | 0, x, l, c, ts, hd0, h => by omega
  | d + 1, x, l, c, ts, hd0, h => by
    by_cases hx : x < s.size
    · have hstep : ∀ (r : Rd) (u : List (Int × List UInt8 × Bool)), readOne s x = r → r.err = 0 → Layout (from_ s (x + r.n)) u → ∃ m, scanGo s (d + 1) x l c [] = (m, 0, 0, 0) ∧ m.map bareT = (r.ts l c []).map bareT ++ u.map strT := by
        intro r u hr he hu
        subst hr
        obtain ⟨hg, hg2⟩ := (readOne_goes s x hx).pos he
        obtain ⟨m, hm, hmm⟩ := layout_scan s d (x + (readOne s x).n) (lc s x l c (readOne s x).n).1 (lc s x l c (readOne s x).n).2 u (by omega) hu
        refine ⟨(readOne s x).ts l c [] ++ m, ?_, ?_⟩
        · rw [scanGo, if_pos hx, if_pos he, scan_acc s d _ _ _ _ (by omega), hm]
          rfl
        · rw [List.map_append, hmm]
      obtain ⟨L, hL⟩ : ∃ L, L = from_ s x := ⟨_, rfl⟩
      rw [← hL] at h
      have hro := readOne_L s x
      rw [← hL] at hro
      cases h with
      | nil =>
        have := from_length s x
        rw [← hL] at this
        simp at this
        omega
      | blank c0 r ts hc hr =>
        have e : readL (c0 :: r) = ⟨0, none, 1⟩ := read1 hc
        rw [e] at hro
        obtain ⟨m, h1, h2⟩ := hstep _ ts hro rfl (by
          show Layout (from_ s (x + 1)) ts
          rw [← from_drop, ← hL]; exact hr)
        exact ⟨m, h1, by rw [h2]; rfl⟩
      | comment b r ts hb hr0 hr =>
        have e : readL (59 :: (b ++ r)) = ⟨0, none, (59 :: b).length⟩ := by
          rw [read2 rfl]
          unfold commentsL
          have := span_all notNlB r (by
            rcases hr0 with h | h
            · exact .inl h
            · right; rw [h]; rfl) (59 :: b) (by
            rw [List.all_cons, Bool.and_eq_true]; exact ⟨by decide, hb⟩)
          rw [List.cons_append] at this
          rw [this]
        rw [e] at hro
        obtain ⟨m, h1, h2⟩ := hstep _ ts hro rfl (by
          show Layout (from_ s (x + (59 :: b).length)) ts
          rw [← from_drop, ← hL, ← List.cons_append, List.drop_left]; exact hr)
        exact ⟨m, h1, by rw [h2]; rfl⟩
      | tok w k tx q r ts hw hf hr =>
        have e := lex_read hw r hf
        rw [e] at hro
        obtain ⟨m, h1, h2⟩ := hstep _ ts hro rfl (by
          show Layout (from_ s (x + w.length)) ts
          rw [← from_drop, ← hL, List.drop_left]; exact hr)
        exact ⟨m, h1, by rw [h2]; rfl⟩
    · rw [from_nil (by omega)] at h
      obtain ⟨L, hL⟩ : ∃ L : List UInt8, L = [] := ⟨_, rfl⟩
      rw [← hL] at h
      cases h with
      | nil => exact ⟨[], by rw [scanGo, if_neg hx], rfl⟩
      | blank => cases hL
      | comment => cases hL
      | tok w k tx q r ts hw =>
        have := lex_pos hw
        have h2 := congrArg List.length hL
        rw [List.length_append, List.length_nil] at h2
        omega
theorem scan_layout (s : ByteArray) : ∀ (d x : Nat) (l c : Int) (m : List S37) (a b : Int), s.size - x < d → scanGo s d x l c [] = (m, a, b, 0) → ∃ ts, Layout (from_ s x) ts ∧ m.map bareT = ts.map strT
  | 0, x, l, c, m, a, b, hd0, h => by omega
  | d + 1, x, l, c, m, a, b, hd0, h => by
    by_cases hx : x < s.size
    · rw [scanGo, if_pos hx] at h
      by_cases he : (readOne s x).err = 0
      · rw [if_pos he] at h
        obtain ⟨hg, hg2⟩ := (readOne_goes s x hx).pos he
        rw [scan_acc s d _ _ _ _ (by omega)] at h
        obtain ⟨m2, a2, b2, e2, hs⟩ : ∃ m2 a2 b2 e2, scanGo s d (x + (readOne s x).n) (lc s x l c (readOne s x).n).1 (lc s x l c (readOne s x).n).2 [] = (m2, a2, b2, e2) := ⟨_, _, _, _, rfl⟩
        rw [hs] at h
        injection h with h1 h2
        injection h2 with h2 h3
        injection h3 with h3 h4
        have h4 : e2 = 0 := h4
        subst h4
        rw [if_pos rfl] at h1
        obtain ⟨ts, hts, hmm⟩ := scan_layout s d _ _ _ m2 a2 b2 (by omega) hs
        have hro := readOne_L s x
        cases hr : readOne s x with
        | mk err tok n =>
          rw [hr] at h1 he hro hts hg hg2
          have he : err = 0 := he
          subst he
          cases tok with
          | some p =>
            obtain ⟨k, tx, q⟩ := p
            obtain ⟨w, rest, txl, e1, e2, e3, e4, e5⟩ := (read_lex hro.symm).told
            have hrest : from_ s (x + n) = rest := by rw [← from_drop, e1, ← e2, List.drop_left]
            have hts : Layout (from_ s (x + n)) ts := hts
            rw [hrest] at hts
            refine ⟨(k, txl, q) :: ts, ?_, ?_⟩
            · rw [e1]; exact .tok w k txl q rest ts e4 e5 hts
            · rw [← h1, List.map_append, hmm, e3]; rfl
          | none =>
            refine ⟨ts, ?_, by rw [← h1, List.map_append, hmm]; rfl⟩
            have hts : Layout (from_ s (x + n)) ts := hts
            obtain ⟨c0, hc0, -⟩ := from_cons hx
            rw [hc0] at hro
            rcases class_cases (hd (c0 :: from_ s (x + 1))) with hc | hc | hc | hc | hc | hc | hc | hc | hc | hc
            · unfold readL at hro; rw [hc] at hro
              have hro : _ = (⟨60, none, 0⟩ : Rd) := hro
              injection hro with h5; cases h5
            · rw [read1 hc] at hro
              injection hro with _ _ h5
              subst h5
              rw [hc0]; exact .blank c0 _ ts hc hts
            · rw [read2 hc] at hro
              obtain rfl : c0 = 59 := by8_inj ((class_facts c0).2.2.2.2.2.2.2.2 hc)
              unfold commentsL at hro
              injection hro with _ _ h5
              rw [spanN, if_pos (by decide)] at h5
              have h6 := span_take notNlB (from_ s (x + 1))
              have h7 := span_next notNlB (from_ s (x + 1))
              have e6 : x + n = x + 1 + spanN notNlB (from_ s (x + 1)) := by omega
              rw [e6] at hts
              rw [from_drop] at h7
              have e7 : from_ s (x + 1) = (from_ s (x + 1)).take (spanN notNlB (from_ s (x + 1))) ++ from_ s (x + 1 + spanN notNlB (from_ s (x + 1))) := by rw [← from_drop s (x + 1), List.take_append_drop]
              rw [hc0, e7]
              refine .comment _ _ ts h6 ?_ hts
              rcases h7 with h7 | h7
              · exact .inl h7
              · right; simpa [notNlB] using h7
            · rw [read3 hc] at hro; unfold bracketsL at hro; split at hro <;> (injection hro with _ h5; cases h5)
            · rw [read4 hc] at hro; unfold numeralsL numL at hro; split at hro <;> (unfold bareL at hro; split at hro <;> (injection hro with h4 h5; first | (cases h5; done) | (cases h4; done)))
            · rw [read5 hc] at hro; unfold hashesL at hro; split at hro
              · unfold hashL bareL at hro; split at hro <;> (injection hro with h4 h5; first | (cases h5; done) | (cases h4; done))
              · split at hro
                · unfold hashL bareL at hro; split at hro <;> (injection hro with h4 h5; first | (cases h5; done) | (cases h4; done))
                · injection hro with h4; cases h4
            · rw [read6 hc] at hro; unfold quotesL at hro; split at hro <;> (injection hro with h4 h5; first | (cases h5; done) | (cases h4; done))
            · rw [read7 hc] at hro; unfold barsL at hro; split at hro <;> (injection hro with h4 h5; first | (cases h5; done) | (cases h4; done))
            · rw [read8 hc] at hro; unfold colonsL bareL at hro; split at hro <;> (injection hro with h4 h5; first | (cases h5; done) | (cases h4; done))
            · rw [read9 hc] at hro; unfold wordsL bareL at hro; split at hro <;> (injection hro with h4 h5; first | (cases h5; done) | (cases h4; done))
      · rw [if_neg he] at h
        injection h with _ h2
        injection h2 with _ h3
        injection h3 with _ h4
        exact absurd h4 he
    · rw [scanGo, if_neg hx] at h
      injection h with h1
      subst h1
      exact ⟨[], by rw [from_nil (by omega)]; exact .nil, rfl⟩
end
section
open Go.RowKit Go.Proofs.YthklnopfgoekeaaGreatDoorW.PrintWords Go.Proofs.YthklnopfgoekeaaGreatDoorW.PrintLast Go.Proofs.YthklnopfgoekeaaGreatDoorW.PrintMore
set_option linter.unusedVariables false

/-- A token as it would be written, on lists. -/
def textL (k : Int) (tx : List UInt8) (q : Bool) : List UInt8 :=
  if k = 5 then 35 :: 120 :: tx else if k = 6 then 35 :: 98 :: tx else if k = 9 then 58 :: tx
  else if k = 7 then 34 :: (dblL tx ++ [34]) else if k = 8 ∧ q = true then 124 :: (tx ++ [124]) else tx
theorem u8_all {P : UInt8 → Prop} (h : ∀ c : Fin 256, P (UInt8.ofNat c.val)) (c : UInt8) : P c := by
  have := h ⟨c.toNat, c.toNat_lt⟩
  simpa using this
theorem lower_twice : ∀ c : UInt8, Lib.lowerB (Lib.lowerB c) = Lib.lowerB c := u8_all (by decide +kernel)
theorem lower_hex : ∀ c : UInt8, hexB (by8 c) = true → hexB (by8 (Lib.lowerB c)) = true := u8_all (by decide +kernel)
theorem lower_bin : ∀ c : UInt8, binB (by8 c) = true → Lib.lowerB c = c := u8_all (by decide +kernel)
theorem Llow_low (h : List UInt8) : Lib.toLowerA (Lib.toLowerA h) = Lib.toLowerA h := by
  unfold Lib.toLowerA
  rw [List.map_map]
  exact List.map_congr_left (fun c _ => lower_twice c)
theorem Llow_bin : ∀ h : List UInt8, allP binB h = true → Lib.toLowerA h = h
  | [], _ => rfl
  | c :: h, hh => by
    rw [allP, List.all_cons, Bool.and_eq_true] at hh
    unfold Lib.toLowerA
    rw [List.map_cons, lower_bin c hh.1]
    exact congrArg (c :: ·) (Llow_bin h hh.2)
theorem Llow_hex : ∀ h : List UInt8, allP hexB h = true → allP hexB (Lib.toLowerA h) = true
  | [], _ => rfl
  | c :: h, hh => by
    rw [allP, List.all_cons, Bool.and_eq_true] at hh
    unfold Lib.toLowerA
    rw [List.map_cons, allP, List.all_cons, Bool.and_eq_true]
    exact ⟨lower_hex c hh.1, Llow_hex h hh.2⟩
theorem Llow_length (h : List UInt8) : (Lib.toLowerA h).length = h.length := by
  unfold Lib.toLowerA
  exact List.length_map _
theorem Llow_ne {h : List UInt8} (h0 : h ≠ []) : Lib.toLowerA h ≠ [] := by
  cases h with
  | nil => exact absurd rfl h0
  | cons c h => unfold Lib.toLowerA; simp
/-- The written form looks like the token too; it is as long, and the same but for a hexadecimal's letters. -/
theorem lex_canon {w : List UInt8} {k : Int} {tx : List UInt8} {q : Bool} (h : Lex w k tx q) : Lex (textL k tx q) k tx q ∧ (textL k tx q).length = w.length ∧ (k ≠ 5 → textL k tx q = w) := by
  cases h with
  | opens => exact ⟨.opens, rfl, fun _ => rfl⟩
  | closes => exact ⟨.closes, rfl, fun _ => rfl⟩
  | num w h => exact ⟨.num w h, rfl, fun _ => rfl⟩
  | dec a b h h0 hb => exact ⟨.dec a b h h0 hb, rfl, fun _ => rfl⟩
  | hex h h0 hh =>
    refine ⟨?_, ?_, fun e => absurd rfl e⟩
    · have := Lex.hex (Lib.toLowerA h) (Llow_ne h0) (Llow_hex h hh)
      rw [Llow_low] at this
      exact this
    · show (35 :: 120 :: Lib.toLowerA h).length = _
      rw [List.length_cons, List.length_cons, Llow_length]; rfl
  | bin h h0 hh =>
    have e : textL 6 (Lib.toLowerA h) false = 35 :: 98 :: h := by
      show 35 :: 98 :: Lib.toLowerA h = _
      rw [Llow_bin h hh]
    exact ⟨by rw [e]; exact .bin h h0 hh, by rw [e], fun _ => e⟩
  | str t ht => exact ⟨.str tx ht, rfl, fun _ => rfl⟩
  | sym w hw hc => exact ⟨.sym w hw hc, rfl, fun _ => rfl⟩
  | bar t ht => exact ⟨.bar tx ht, rfl, fun _ => rfl⟩
  | key t h0 ht => exact ⟨.key tx h0 ht, rfl, fun _ => rfl⟩
theorem strOf_append (a b : List UInt8) : strOf a ++ strOf b = strOf (a ++ b) := by
  have h : (strOf a ++ strOf b).data.toList = a ++ b := by
    rw [ByteArray.data_append, Array.toList_append, strOf_list, strOf_list]
  rw [← h, strOf_data]
theorem all_at {p : Int → Bool} {t : List UInt8} (h : allP p t = true) (j : Nat) (hj : j < t.length) : p (bt (strOf t) j) = true := by
  rw [bt_from, from_str, List.drop_eq_getElem_cons hj]
  exact List.all_eq_true.1 h _ (List.getElem_mem hj)
theorem text_L {w : List UInt8} {k : Int} {tx : List UInt8} {q : Bool} (h : Lex w k tx q) : textR k (strOf tx) q = strOf (textL k tx q) := by
  cases h with
  | opens => rfl
  | closes => rfl
  | num w h => rfl
  | dec a b h h0 hb => rfl
  | hex h h0 hh => exact strOf_append [35, 120] _
  | bin h h0 hh => exact strOf_append [35, 98] _
  | str t ht =>
    show (strR (strOf tx)).1 = strOf (34 :: (dblL tx ++ [34]))
    rw [str_ok (fun j hj => by
      have := all_at ht j (by rw [strOf_size] at hj; exact hj)
      simpa using this)]
    show strOf [34] ++ dbl (strOf tx) ++ strOf [34] = _
    unfold dbl
    rw [strOf_list, strOf_append, strOf_append]
    rfl
  | sym w hw hc => rfl
  | bar t ht =>
    show strOf [124] ++ strOf tx ++ strOf [124] = _
    rw [strOf_append, strOf_append]
    rfl
  | key t h0 ht => exact strOf_append [58] _
theorem fol_end (k : Int) (q : Bool) : folB k q [] = true := by
  unfold folB
  split
  · rfl
  · split <;> rfl
theorem arr_ext {a b : ByteArray} (h : a.toList = b.toList) : a = b := by
  rw [ByteArray.toList_eq, ByteArray.toList_eq] at h
  rw [← strOf_data a, h, strOf_data]
/-- Is it the token alone? Its place is not asked. -/
def aloneR (k : Int) (tx : ByteArray) (q : Bool) (r : List S37 × Int × Int × Int) : Bool := match r with
  | ([t], _, _, e) => e == 0 && (t.f0 == k && (t.f1.toList == tx.toList && t.f2 == q))
  | _ => false
/-- What looks like the token and is written so: scanned, it is the token alone, at the head. -/
theorem lex_alone {k : Int} {tx : List UInt8} {q : Bool} (h : Lex (textL k tx q) k tx q) (hs : (textL k tx q).length ≤ 1048576) : scanAll (strOf (textL k tx q)) = ([⟨k, strOf tx, q, 1, 1⟩], 0, 0, 0) := by
  have hp := lex_pos h
  have hsz : (strOf (textL k tx q)).size = (textL k tx q).length := strOf_size _
  have hr := lex_read h [] (fol_end k q)
  rw [List.append_nil] at hr
  have hro : readOne (strOf (textL k tx q)) 0 = ⟨0, some (k, strOf tx, q), (textL k tx q).length⟩ := by
    rw [readOne_L, from_str]
    exact hr
  unfold scanAll
  rw [if_neg (by omega), scanGo_more (by omega) (by rw [hro]), hro]
  show scanGo _ (strOf (textL k tx q)).size (0 + (textL k tx q).length) _ _ [⟨k, strOf tx, q, 1, 1⟩] = _
  exact scanGo_end (by omega) (by omega)
theorem lex_write {k : Int} {tx : List UInt8} {q : Bool} (h : Lex (textL k tx q) k tx q) (hs : (textL k tx q).length ≤ 1048576) : writeR k (strOf tx) q = (strOf (textL k tx q), 0) := by
  unfold writeR
  rw [text_L h, lex_alone h hs, if_pos ⟨by rw [strOf_size]; exact hs, by simp [aloneB]⟩]
theorem layout_one : ∀ (l : List UInt8) (p : Int × List UInt8 × Bool), Layout l [p] → ∃ pre w rest, l = pre ++ (w ++ rest) ∧ Lex w p.1 p.2.1 p.2.2 := by
  intro l p h
  generalize hts : [p] = ts at h
  induction h with
  | nil => cases hts
  | blank c r ts hc hr ih =>
    obtain ⟨pre, w, rest, e, hl⟩ := ih hts
    exact ⟨c :: pre, w, rest, by rw [e]; rfl, hl⟩
  | comment b r ts hb hr0 hr ih =>
    obtain ⟨pre, w, rest, e, hl⟩ := ih hts
    exact ⟨59 :: (b ++ pre), w, rest, by rw [e]; simp, hl⟩
  | tok w k tx q r ts hw hf hr ih =>
    injection hts with h1 h2
    subst h1
    exact ⟨[], w, r, rfl, hw⟩
/-- What is scanned as one token of that kind, text and bar is the written form. -/
theorem alone_back {k : Int} {tx : ByteArray} {q : Bool} {m : S37} {a b : Int} (h : scanAll (textR k tx q) = ([m], a, b, 0)) (h0 : m.f0 = k) (h1 : m.f1 = tx) (h2 : m.f2 = q) : ∃ t, tx = strOf t ∧ Lex (textL k t q) k t q ∧ (textL k t q).length ≤ 1048576 := by
  unfold scanAll at h
  split at h
  · injection h with h _; cases h
  · rename_i hsz
    obtain ⟨ts, hL, hm⟩ := scan_layout _ _ _ _ _ _ _ _ (by omega) h
    obtain ⟨p, rfl⟩ : ∃ p, ts = [p] := by
      have := congrArg List.length hm
      simp only [List.length_map, List.length_cons, List.length_nil] at this
      match ts, this with
      | [p], _ => exact ⟨p, rfl⟩
    injection hm with hm _
    obtain ⟨k1, t, q1⟩ := p
    have e1 : k = k1 := by have := congrArg (fun z => z.1) hm; exact h0.symm.trans this
    have e2 : tx = strOf t := by have := congrArg (fun z => z.2.1) hm; exact h1.symm.trans this
    have e3 : q = q1 := by have := congrArg (fun z => z.2.2) hm; exact h2.symm.trans this
    subst e1 e3
    obtain ⟨pre, w, rest, e, hl⟩ := layout_one _ _ hL
    obtain ⟨c1, c2, -⟩ := lex_canon hl
    refine ⟨t, e2, c1, ?_⟩
    have h9 := congrArg List.length e
    rw [from_length, List.length_append, List.length_append] at h9
    have hl2 : w.length = (textL k t q).length := c2.symm
    omega
theorem write_back {k : Int} {tx : ByteArray} {q : Bool} {r : ByteArray} (h : writeR k tx q = (r, 0)) : ∃ t, tx = strOf t ∧ Lex (textL k t q) k t q ∧ (textL k t q).length ≤ 1048576 ∧ r = strOf (textL k t q) := by
  unfold writeR at h
  split at h
  · rename_i hh
    obtain ⟨h1, h2⟩ := hh
    unfold aloneB at h2
    split at h2
    · rename_i t a b e hsc
      simp only [Bool.and_eq_true, beq_iff_eq] at h2
      obtain ⟨he, h3, h4, h5, -⟩ := h2
      subst he
      obtain ⟨tl, e1, e2, e3⟩ := alone_back hsc h3 (arr_ext h4) h5
      refine ⟨tl, e1, e2, e3, ?_⟩
      injection h with h _
      rw [← h, e1, text_L e2]
    · cases h2
  · injection h with _ h; cases h
end
end Go.Proofs.YthklnopfgoekeaaGreatDoor.X
