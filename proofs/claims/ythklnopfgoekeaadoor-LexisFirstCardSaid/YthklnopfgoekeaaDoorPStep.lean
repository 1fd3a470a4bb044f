/- The scanner's steps over a text with more behind it or ahead of it. -/
import Derived.Test.YthklnopfgoekeaaDoorPWrite
namespace Go.Proofs.YthklnopfgoekeaaDoor.X
open Go.RowKit Go.Proofs.YthklnopfgoekeaaDoorW.PrintWords Go.Proofs.YthklnopfgoekeaaDoorW.PrintLast Go.Proofs.YthklnopfgoekeaaDoorW.PrintMore
set_option linter.unusedVariables false

theorem no_num {a b : Int} (h : a = b) (hn : a ≠ b) {P : Prop} : P := absurd h hn
theorem read_none {l : List UInt8} {n : Nat} (h : readL l = ⟨0, none, n⟩) : (classI (hd l) = 1 ∧ n = 1) ∨ (classI (hd l) = 2 ∧ n = spanN notNlB l) := by
  rcases class_cases (hd l) with hc | hc | hc | hc | hc | hc | hc | hc | hc | hc
  · unfold readL at h; rw [hc] at h
    have h : (⟨60, none, 0⟩ : Rd) = _ := h
    injection h with h1; cases h1
  · rw [read1 hc] at h
    injection h with _ _ h5
    exact .inl ⟨hc, h5.symm⟩
  · rw [read2 hc] at h; unfold commentsL at h
    injection h with _ _ h5
    exact .inr ⟨hc, h5.symm⟩
  · rw [read3 hc] at h; unfold bracketsL at h; split at h <;> (injection h with _ h5; cases h5)
  · rw [read4 hc] at h; unfold numeralsL numL at h; split at h <;> (unfold bareL at h; split at h <;> (injection h with h4 h5; first | (cases h5; done) | (cases h4; done)))
  · rw [read5 hc] at h; unfold hashesL at h; split at h
    · unfold hashL bareL at h; split at h <;> (injection h with h4 h5; first | (cases h5; done) | (cases h4; done))
    · split at h
      · unfold hashL bareL at h; split at h <;> (injection h with h4 h5; first | (cases h5; done) | (cases h4; done))
      · injection h with h4; cases h4
  · rw [read6 hc] at h; unfold quotesL at h; split at h <;> (injection h with h4 h5; first | (cases h5; done) | (cases h4; done))
  · rw [read7 hc] at h; unfold barsL at h; split at h <;> (injection h with h4 h5; first | (cases h5; done) | (cases h4; done))
  · rw [read8 hc] at h; unfold colonsL bareL at h; split at h <;> (injection h with h4 h5; first | (cases h5; done) | (cases h4; done))
  · rw [read9 hc] at h; unfold wordsL bareL at h; split at h <;> (injection h with h4 h5; first | (cases h5; done) | (cases h4; done))
theorem err_bare {l : List UInt8} {k : Int} {tx : List UInt8} {n : Nat} {ok : Bool} : (bareL l k tx n ok).err ≠ 60 := by
  unfold bareL
  split <;> (intro h; cases h)
theorem read_60 {l : List UInt8} (h : (readL l).err = 60) : classI (hd l) = 0 := by
  rcases class_cases (hd l) with hc | hc | hc | hc | hc | hc | hc | hc | hc | hc
  · exact hc
  · rw [read1 hc] at h; cases h
  · rw [read2 hc] at h; unfold commentsL at h; cases h
  · rw [read3 hc] at h; unfold bracketsL at h; split at h <;> cases h
  · rw [read4 hc] at h; unfold numeralsL numL at h; split at h <;> exact absurd h err_bare
  · rw [read5 hc] at h; unfold hashesL at h; split at h
    · exact absurd h err_bare
    · split at h
      · exact absurd h err_bare
      · cases h
  · rw [read6 hc] at h; unfold quotesL at h; split at h <;> cases h
  · rw [read7 hc] at h; unfold barsL at h; split at h <;> cases h
  · rw [read8 hc] at h; unfold colonsL at h; exact absurd h err_bare
  · rw [read9 hc] at h; unfold wordsL at h; exact absurd h err_bare
theorem read_0 {l : List UInt8} (h : classI (hd l) = 0) : readL l = ⟨60, none, 0⟩ := by
  unfold readL; rw [h]; rfl
theorem hd_app {l : List UInt8} (h : l ≠ []) (m : List UInt8) : hd (l ++ m) = hd l := by
  cases l with
  | nil => exact absurd rfl h
  | cons c l => rfl
theorem endL_app {l : List UInt8} (h : l ≠ []) (m : List UInt8) : endL (l ++ m) = endL l := by
  cases l with
  | nil => exact absurd rfl h
  | cons c l => rfl
theorem folB_app {l : List UInt8} (h : l ≠ []) (m : List UInt8) (k : Int) (q : Bool) : folB k q (l ++ m) = folB k q l := by
  unfold folB
  rw [hd_app h, endL_app h]
theorem span_app (p : Int → Bool) (m : List UInt8) : ∀ l : List UInt8, spanN p l < l.length → spanN p (l ++ m) = spanN p l
  | [], h => absurd h (Nat.not_lt_zero _)
  | c :: r, h => by
    rw [spanN] at h
    rw [List.cons_append, spanN, spanN]
    by_cases hc : p (by8 c) = true
    · rw [if_pos hc, List.length_cons] at h
      rw [if_pos hc, if_pos hc, span_app p m r (by omega)]
    · rw [if_neg hc, if_neg hc]
/-- A piece that does not reach the end is read so with more behind it. -/
theorem readL_app {L : List UInt8} (m : List UInt8) (h : (readL L).err = 0) (hn : (readL L).n < L.length) : readL (L ++ m) = readL L := by
  have hL : L ≠ [] := by
    intro e
    rw [e, List.length_nil] at hn
    omega
  cases hr : readL L with
  | mk err tok n =>
    rw [hr] at h hn
    have h : err = 0 := h
    have hn : n < L.length := hn
    subst h
    cases tok with
    | some p =>
      obtain ⟨k, tx, q⟩ := p
      obtain ⟨w, rest, txl, e1, e2, e3, e4, e5⟩ := (read_lex hr).told
      have hrest : rest ≠ [] := by
        intro e
        have e6 := congrArg List.length e1
        rw [e, List.append_nil] at e6
        have e7 : w.length = n := e2
        omega
      rw [e1, List.append_assoc, lex_read e4 (rest ++ m) (by rw [folB_app hrest]; exact e5), e2, e3]
    | none =>
      rcases read_none hr with ⟨hc, hn1⟩ | ⟨hc, hn1⟩
      · rw [read1 (by rw [hd_app hL]; exact hc), hn1]
      · rw [read2 (by rw [hd_app hL]; exact hc)]
        unfold commentsL
        rw [span_app _ _ _ (by omega), hn1]
theorem str_app (s m : ByteArray) : (s ++ m).data.toList = s.data.toList ++ m.data.toList := by
  rw [ByteArray.data_append, Array.toList_append]
theorem size_app (s m : ByteArray) : (s ++ m).size = s.size + m.size := ByteArray.size_append ..
theorem from_app (s m : ByteArray) (x : Nat) (h : x ≤ s.size) : from_ (s ++ m) x = from_ s x ++ m.data.toList := by
  unfold from_
  rw [str_app, List.drop_append_of_le_length h]
theorem from_pre (p s : ByteArray) (x : Nat) : from_ (p ++ s) (p.size + x) = from_ s x := by
  unfold from_
  rw [str_app, ← List.drop_drop]
  show List.drop x (List.drop p.data.toList.length _) = _
  rw [List.drop_left]
theorem bt_app (s m : ByteArray) (x : Nat) (h : x < s.size) : bt (s ++ m) x = bt s x := by
  rw [bt_from, bt_from, from_app _ _ _ (by omega)]
  obtain ⟨c, hc, -⟩ := from_cons h
  rw [hc]; rfl
theorem bt_pre (p s : ByteArray) (x : Nat) : bt (p ++ s) ((p.size + x : Nat) : Int) = bt s x := by
  rw [bt_from, bt_from, from_pre]
theorem lc_app (s m : ByteArray) (x : Nat) (l c : Int) : ∀ n : Nat, x + n ≤ s.size → lc (s ++ m) x l c n = lc s x l c n
  | 0, _ => rfl
  | n + 1, h => by
    have e : (x : Int) + (n : Nat) = ((x + n : Nat) : Int) := by omega
    rw [lc, lc, lc_app s m x l c n (by omega), e, bt_app _ _ _ (by omega)]
theorem readOne_app (s m : ByteArray) (x : Nat) (h : (readOne s x).err = 0) (hn : x + (readOne s x).n < s.size) : readOne (s ++ m) x = readOne s x := by
  rw [readOne_L] at h hn ⊢
  rw [readOne_L, from_app _ _ _ (by omega), readL_app _ h (by rw [from_length]; omega)]
theorem scan_app (s m : ByteArray) : ∀ (d x : Nat) (l c a b : Int) (ts u : List S38), s.size - x < d → scanGo s d x l c ts = (u, a, b, 60) → ∀ (d' : Nat) (ts' : List S38), (s ++ m).size - x < d' → scanGo (s ++ m) d' x l c ts' = ([], a, b, 60)
  | 0, x, l, c, a, b, ts, u, hd0, h, d', ts', hd' => by omega
  | d + 1, x, l, c, a, b, ts, u, hd0, h, d', ts', hd' => by
    have hz := size_app s m
    by_cases hx : x < s.size
    · by_cases he : (readOne s x).err = 0
      · rw [scanGo_more hx he] at h
        obtain ⟨hg, hg2⟩ := (readOne_goes s x hx).pos he
        by_cases hx2 : x + (readOne s x).n < s.size
        · have e := readOne_app s m x he hx2
          cases d' with
          | zero => omega
          | succ d' =>
            rw [scanGo_more (by omega) (by rw [e]; exact he), e, lc_app _ _ _ _ _ _ (by omega)]
            exact scan_app s m d _ _ _ a b _ u (by omega) h d' _ (by omega)
        · rw [scanGo_end (by omega) hx2] at h
          injection h with _ h
          injection h with _ h
          injection h with _ h
          cases h
      · rw [scanGo_bad hd0 hx he] at h
        injection h with _ h
        injection h with h1 h
        injection h with h2 h3
        have hc : classI (hd (from_ s x)) = 0 := read_60 (by rw [← readOne_L]; exact h3)
        have e : readOne (s ++ m) x = ⟨60, none, 0⟩ := by
          rw [readOne_L, from_app _ _ _ (by omega)]
          refine read_0 ?_
          rw [hd_app (by intro e; have := from_length s x; rw [e, List.length_nil] at this; omega)]
          exact hc
        rw [scanGo_bad hd' (by omega) (by rw [e]; exact (by decide : (60 : Int) ≠ 0)), e, h1, h2]
    · rw [scanGo_end hd0 hx] at h
      injection h with _ h
      injection h with _ h
      injection h with _ h
      cases h
/-- A line's columns with two bytes ahead of the text. -/
def shC (l c : Int) : Int := if l = 1 then c + 2 else c
theorem lc_pre (p s : ByteArray) (x : Nat) (l c : Int) (hl : 1 ≤ l) : ∀ n : Nat, lc (p ++ s) ((p.size + x : Nat) : Int) l (shC l c) n = ((lc s x l c n).1, shC (lc s x l c n).1 (lc s x l c n).2) ∧ 1 ≤ (lc s x l c n).1
  | 0 => ⟨rfl, hl⟩
  | n + 1 => by
    obtain ⟨h1, h2⟩ := lc_pre p s x l c hl n
    have e : ((p.size + x : Nat) : Int) + (n : Nat) = ((p.size + (x + n) : Nat) : Int) := by omega
    have e2 : (x : Int) + (n : Nat) = ((x + n : Nat) : Int) := by omega
    rw [lc, lc, h1, e, e2, bt_pre]
    split
    · refine ⟨?_, by show 1 ≤ (lc s x l c n).1 + 1; omega⟩
      show ((lc s x l c n).1 + 1, (1 : Int)) = ((lc s x l c n).1 + 1, shC ((lc s x l c n).1 + 1) 1)
      unfold shC
      rw [if_neg (by omega)]
    · refine ⟨?_, h2⟩
      show ((lc s x l c n).1, shC (lc s x l c n).1 (lc s x l c n).2 + 1) = ((lc s x l c n).1, shC (lc s x l c n).1 ((lc s x l c n).2 + 1))
      unfold shC
      congr 1
      split <;> omega
theorem scan_pre (p s : ByteArray) : ∀ (d x : Nat) (l c a b e : Int) (ts u : List S38), s.size - x < d → 1 ≤ l → scanGo s d x l c ts = (u, a, b, e) → e ≠ 0 → ∀ (d' : Nat) (ts' : List S38), (p ++ s).size - (p.size + x) < d' → scanGo (p ++ s) d' (p.size + x) l (shC l c) ts' = ([], a, shC a b, e)
  | 0, x, l, c, a, b, e, ts, u, hd0, hl, h, he0, d', ts', hd' => by omega
  | d + 1, x, l, c, a, b, e, ts, u, hd0, hl, h, he0, d', ts', hd' => by
    have hz := size_app p s
    have er : readOne (p ++ s) (p.size + x) = readOne s x := by rw [readOne_L, readOne_L, from_pre]
    by_cases hx : x < s.size
    · by_cases he : (readOne s x).err = 0
      · rw [scanGo_more hx he] at h
        obtain ⟨hg, hg2⟩ := (readOne_goes s x hx).pos he
        obtain ⟨h1, h2⟩ := lc_pre p s x l c hl (readOne s x).n
        cases d' with
        | zero => omega
        | succ d' =>
          rw [scanGo_more (by omega) (by rw [er]; exact he), er, h1]
          show scanGo (p ++ s) d' (p.size + x + (readOne s x).n) (lc s x l c (readOne s x).n).1 (shC (lc s x l c (readOne s x).n).1 (lc s x l c (readOne s x).n).2) _ = _
          rw [Nat.add_assoc]
          exact scan_pre p s d _ _ _ a b e _ u (by omega) h2 h he0 d' _ (by omega)
      · rw [scanGo_bad hd0 hx he] at h
        injection h with _ h
        injection h with h1 h
        injection h with h2 h3
        rw [scanGo_bad hd' (by omega) (by rw [er]; exact he), er, h3, h1, h2]
    · rw [scanGo_end hd0 hx] at h
      injection h with _ h
      injection h with _ h
      injection h with _ h
      exact absurd h.symm he0
/-- The fault's place is in bounds. -/
theorem scan_place (s : ByteArray) : ∀ (d x : Nat) (l c a b e : Int) (ts u : List S38), s.size - x < d → Nb s x l c → scanGo s d x l c ts = (u, a, b, e) → e ≠ 0 → ∃ y : Int, Nb s y a b
  | 0, x, l, c, a, b, e, ts, u, hd0, hN, h, he0 => by omega
  | d + 1, x, l, c, a, b, e, ts, u, hd0, hN, h, he0 => by
    by_cases hx : x < s.size
    · by_cases he : (readOne s x).err = 0
      · rw [scanGo_more hx he] at h
        obtain ⟨hg, hg2⟩ := (readOne_goes s x hx).pos he
        have h2 := lc_bounds hN (readOne s x).n (by omega)
        rw [← Int.natCast_add] at h2
        exact scan_place s d _ _ _ a b e _ u (by omega) h2 h he0
      · rw [scanGo_bad hd0 hx he] at h
        injection h with _ h
        injection h with h1 h
        injection h with h2 h3
        exact ⟨x, h1 ▸ h2 ▸ hN⟩
    · rw [scanGo_end hd0 hx] at h
      injection h with _ h
      injection h with _ h
      injection h with _ h
      exact absurd h.symm he0
end Go.Proofs.YthklnopfgoekeaaDoor.X
