/- A text and its tokens: what is laid out is scanned as the tokens, and what is scanned is laid out so; what is written. -/
import Derived.Test.YthklnopfgoekeaaDoorPLex
namespace Go.Proofs.YthklnopfgoekeaaDoor.X
open Go.RowKit Go.Proofs.YthklnopfgoekeaaDoorW.PrintWords Go.Proofs.YthklnopfgoekeaaDoorW.PrintLast Go.Proofs.YthklnopfgoekeaaDoorW.PrintMore
set_option linter.unusedVariables false

theorem strOf_list (l : List UInt8) : (strOf l).data.toList = l := by simp [strOf]
theorem strOf_data (s : ByteArray) : strOf s.data.toList = s := by
  cases s with
  | mk d => cases d; rfl
theorem strOf_inj {a b : List UInt8} (h : strOf a = strOf b) : a = b := by
  have := congrArg (fun s : ByteArray => s.data.toList) h
  simpa [strOf_list] using this
theorem from_str (l : List UInt8) (x : Nat) : from_ (strOf l) x = l.drop x := by
  unfold from_
  rw [strOf_list]
/-- A token without its place. -/
def bareT (t : S38) : Int × ByteArray × Bool := (t.f0, t.f1, t.f2)
theorem ts_split (r : Rd) (l c : Int) (ts : List S38) : r.ts l c ts = ts ++ r.ts l c [] := by
  unfold Rd.ts
  split <;> simp
theorem scan_acc (s : ByteArray) : ∀ (d x : Nat) (l c : Int) (ts : List S38), s.size - x < d → scanGo s d x l c ts = ((if (scanGo s d x l c []).2.2.2 = 0 then ts ++ (scanGo s d x l c []).1 else []), (scanGo s d x l c []).2)
  | 0, x, l, c, ts, h => by omega
  | d + 1, x, l, c, ts, h => by
    rw [scanGo, scanGo]
    by_cases hx : x < s.size
    · rw [if_pos hx, if_pos hx]
      by_cases he : (readOne s x).err = 0
      · rw [if_pos he, if_pos he]
        obtain ⟨hg, hg2⟩ := (readOne_goes s x hx).pos he
        rw [ts_split _ _ _ ts, scan_acc s d _ _ _ (ts ++ _) (by omega), scan_acc s d _ _ _ ((readOne s x).ts l c []) (by omega)]
        by_cases h0 : (scanGo s d (x + (readOne s x).n) (lc s x l c (readOne s x).n).1 (lc s x l c (readOne s x).n).2 []).2.2.2 = 0
        · simp only [if_pos h0, List.append_assoc]
        · simp only [if_neg h0]
      · rw [if_neg he, if_neg he]
        simp only [if_neg he]
    · rw [if_neg hx, if_neg hx]
      simp
/-! ### laid out -/
inductive Layout : List UInt8 → List (Int × List UInt8 × Bool) → Prop
  | nil : Layout [] []
  | blank (c : UInt8) (r : List UInt8) (ts : List (Int × List UInt8 × Bool)) : classI (by8 c) = 1 → Layout r ts → Layout (c :: r) ts
  | comment (b r : List UInt8) (ts : List (Int × List UInt8 × Bool)) : allP notNlB b = true → (r = [] ∨ hd r = 10) → Layout r ts → Layout (59 :: (b ++ r)) ts
  | tok (w : List UInt8) (k : Int) (tx : List UInt8) (q : Bool) (r : List UInt8) (ts : List (Int × List UInt8 × Bool)) : Lex w k tx q → folB k q r = true → Layout r ts → Layout (w ++ r) ((k, tx, q) :: ts)
def strT (p : Int × List UInt8 × Bool) : Int × ByteArray × Bool := (p.1, strOf p.2.1, p.2.2)
theorem lex_pos {w : List UInt8} {k : Int} {tx : List UInt8} {q : Bool} (h : Lex w k tx q) : 0 < w.length := by
  cases h with
  | opens => exact Nat.one_pos
  | closes => exact Nat.one_pos
  | num w h => exact List.length_pos_iff.2 h.1
  | dec a b h _ _ => simp; omega
  | hex h _ _ => simp
  | bin h _ _ => simp
  | str t _ => simp
  | sym w _ h =>
    cases w with
    | nil => exact absurd h (by decide)
    | cons c w => simp
  | bar t _ => simp
  | key t _ _ => simp
theorem layout_scan (s : ByteArray) : ∀ (d x : Nat) (l c : Int) (ts : List (Int × List UInt8 × Bool)), s.size - x < d → Layout (from_ s x) ts → ∃ m, scanGo s d x l c [] = (m, 0, 0, 0) ∧ m.map bareT = ts.map strT
  | 0, x, l, c, ts, hd0, h => by omega
  | d + 1, x, l, c, ts, hd0, h => by
    by_cases hx : x < s.size
    · have hstep : ∀ (r : Rd) (u : List (Int × List UInt8 × Bool)), readOne s x = r → r.err = 0 → Layout (from_ s (x + r.n)) u → ∃ m, scanGo s (d + 1) x l c [] = (m, 0, 0, 0) ∧ m.map bareT = (r.ts l c []).map bareT ++ u.map strT := by
        intro r u hr he hu
        subst hr
        obtain ⟨hg, hg2⟩ := (readOne_goes s x hx).pos he
        obtain ⟨m, hm, hmm⟩ := layout_scan s d (x + (readOne s x).n) (lc s x l c (readOne s x).n).1 (lc s x l c (readOne s x).n).2 u (by omega) hu
        refine ⟨(readOne s x).ts l c [] ++ m, ?_, ?_⟩
        · rw [scanGo, if_pos hx, if_pos he, scan_acc s d _ _ _ _ (by omega), hm]
          rfl
        · rw [List.map_append, hmm]
      obtain ⟨L, hL⟩ : ∃ L, L = from_ s x := ⟨_, rfl⟩
      rw [← hL] at h
      have hro := readOne_L s x
      rw [← hL] at hro
      cases h with
      | nil =>
        have := from_length s x
        rw [← hL] at this
        simp at this
        omega
      | blank c0 r ts hc hr =>
        have e : readL (c0 :: r) = ⟨0, none, 1⟩ := read1 hc
        rw [e] at hro
        obtain ⟨m, h1, h2⟩ := hstep _ ts hro rfl (by
          show Layout (from_ s (x + 1)) ts
          rw [← from_drop, ← hL]; exact hr)
        exact ⟨m, h1, by rw [h2]; rfl⟩
      | comment b r ts hb hr0 hr =>
        have e : readL (59 :: (b ++ r)) = ⟨0, none, (59 :: b).length⟩ := by
          rw [read2 rfl]
          unfold commentsL
          have := span_all notNlB r (by
            rcases hr0 with h | h
            · exact .inl h
            · right; rw [h]; rfl) (59 :: b) (by
            rw [List.all_cons, Bool.and_eq_true]; exact ⟨by decide, hb⟩)
          rw [List.cons_append] at this
          rw [this]
        rw [e] at hro
        obtain ⟨m, h1, h2⟩ := hstep _ ts hro rfl (by
          show Layout (from_ s (x + (59 :: b).length)) ts
          rw [← from_drop, ← hL, ← List.cons_append, List.drop_left]; exact hr)
        exact ⟨m, h1, by rw [h2]; rfl⟩
      | tok w k tx q r ts hw hf hr =>
        have e := lex_read hw r hf
        rw [e] at hro
        obtain ⟨m, h1, h2⟩ := hstep _ ts hro rfl (by
          show Layout (from_ s (x + w.length)) ts
          rw [← from_drop, ← hL, List.drop_left]; exact hr)
        exact ⟨m, h1, by rw [h2]; rfl⟩
    · rw [from_nil (by omega)] at h
      obtain ⟨L, hL⟩ : ∃ L : List UInt8, L = [] := ⟨_, rfl⟩
      rw [← hL] at h
      cases h with
      | nil => exact ⟨[], by rw [scanGo, if_neg hx], rfl⟩
      | blank => cases hL
      | comment => cases hL
      | tok w k tx q r ts hw =>
        have := lex_pos hw
        have h2 := congrArg List.length hL
        rw [List.length_append, List.length_nil] at h2
        omega
theorem scan_layout (s : ByteArray) : ∀ (d x : Nat) (l c : Int) (m : List S38) (a b : Int), s.size - x < d → scanGo s d x l c [] = (m, a, b, 0) → ∃ ts, Layout (from_ s x) ts ∧ m.map bareT = ts.map strT
  | 0, x, l, c, m, a, b, hd0, h => by omega
  | d + 1, x, l, c, m, a, b, hd0, h => by
    by_cases hx : x < s.size
    · rw [scanGo, if_pos hx] at h
      by_cases he : (readOne s x).err = 0
      · rw [if_pos he] at h
        obtain ⟨hg, hg2⟩ := (readOne_goes s x hx).pos he
        rw [scan_acc s d _ _ _ _ (by omega)] at h
        obtain ⟨m2, a2, b2, e2, hs⟩ : ∃ m2 a2 b2 e2, scanGo s d (x + (readOne s x).n) (lc s x l c (readOne s x).n).1 (lc s x l c (readOne s x).n).2 [] = (m2, a2, b2, e2) := ⟨_, _, _, _, rfl⟩
        rw [hs] at h
        injection h with h1 h2
        injection h2 with h2 h3
        injection h3 with h3 h4
        have h4 : e2 = 0 := h4
        subst h4
        rw [if_pos rfl] at h1
        obtain ⟨ts, hts, hmm⟩ := scan_layout s d _ _ _ m2 a2 b2 (by omega) hs
        have hro := readOne_L s x
        cases hr : readOne s x with
        | mk err tok n =>
          rw [hr] at h1 he hro hts hg hg2
          have he : err = 0 := he
          subst he
          cases tok with
          | some p =>
            obtain ⟨k, tx, q⟩ := p
            obtain ⟨w, rest, txl, e1, e2, e3, e4, e5⟩ := (read_lex hro.symm).told
            have hrest : from_ s (x + n) = rest := by rw [← from_drop, e1, ← e2, List.drop_left]
            have hts : Layout (from_ s (x + n)) ts := hts
            rw [hrest] at hts
            refine ⟨(k, txl, q) :: ts, ?_, ?_⟩
            · rw [e1]; exact .tok w k txl q rest ts e4 e5 hts
            · rw [← h1, List.map_append, hmm, e3]; rfl
          | none =>
            refine ⟨ts, ?_, by rw [← h1, List.map_append, hmm]; rfl⟩
            have hts : Layout (from_ s (x + n)) ts := hts
            obtain ⟨c0, hc0, -⟩ := from_cons hx
            rw [hc0] at hro
            rcases class_cases (hd (c0 :: from_ s (x + 1))) with hc | hc | hc | hc | hc | hc | hc | hc | hc | hc
            · unfold readL at hro; rw [hc] at hro
              have hro : _ = (⟨60, none, 0⟩ : Rd) := hro
              injection hro with h5; cases h5
            · rw [read1 hc] at hro
              injection hro with _ _ h5
              subst h5
              rw [hc0]; exact .blank c0 _ ts hc hts
            · rw [read2 hc] at hro
              obtain rfl : c0 = 59 := by8_inj ((class_facts c0).2.2.2.2.2.2.2.2 hc)
              unfold commentsL at hro
              injection hro with _ _ h5
              rw [spanN, if_pos (by decide)] at h5
              have h6 := span_take notNlB (from_ s (x + 1))
              have h7 := span_next notNlB (from_ s (x + 1))
              have e6 : x + n = x + 1 + spanN notNlB (from_ s (x + 1)) := by omega
              rw [e6] at hts
              rw [from_drop] at h7
              have e7 : from_ s (x + 1) = (from_ s (x + 1)).take (spanN notNlB (from_ s (x + 1))) ++ from_ s (x + 1 + spanN notNlB (from_ s (x + 1))) := by rw [← from_drop s (x + 1), List.take_append_drop]
              rw [hc0, e7]
              refine .comment _ _ ts h6 ?_ hts
              rcases h7 with h7 | h7
              · exact .inl h7
              · right; simpa [notNlB] using h7
            · rw [read3 hc] at hro; unfold bracketsL at hro; split at hro <;> (injection hro with _ h5; cases h5)
            · rw [read4 hc] at hro; unfold numeralsL numL at hro; split at hro <;> (unfold bareL at hro; split at hro <;> (injection hro with h4 h5; first | (cases h5; done) | (cases h4; done)))
            · rw [read5 hc] at hro; unfold hashesL at hro; split at hro
              · unfold hashL bareL at hro; split at hro <;> (injection hro with h4 h5; first | (cases h5; done) | (cases h4; done))
              · split at hro
                · unfold hashL bareL at hro; split at hro <;> (injection hro with h4 h5; first | (cases h5; done) | (cases h4; done))
                · injection hro with h4; cases h4
            · rw [read6 hc] at hro; unfold quotesL at hro; split at hro <;> (injection hro with h4 h5; first | (cases h5; done) | (cases h4; done))
            · rw [read7 hc] at hro; unfold barsL at hro; split at hro <;> (injection hro with h4 h5; first | (cases h5; done) | (cases h4; done))
            · rw [read8 hc] at hro; unfold colonsL bareL at hro; split at hro <;> (injection hro with h4 h5; first | (cases h5; done) | (cases h4; done))
            · rw [read9 hc] at hro; unfold wordsL bareL at hro; split at hro <;> (injection hro with h4 h5; first | (cases h5; done) | (cases h4; done))
      · rw [if_neg he] at h
        injection h with _ h2
        injection h2 with _ h3
        injection h3 with _ h4
        exact absurd h4 he
    · rw [scanGo, if_neg hx] at h
      injection h with h1
      subst h1
      exact ⟨[], by rw [from_nil (by omega)]; exact .nil, rfl⟩
end Go.Proofs.YthklnopfgoekeaaDoor.X
