/- What all the lexis laws ask: the self-test stands; a line of tokens is the same as itself. Tokens joined: the line is laid out as the tokens; what is joined is scanned as the same, what is scanned can be joined. -/
import Derived.Test.YthklnopfgoekeaaDoorHJoin
import Derived.Test.YthklnopfgoekeaaDoorX7
import Derived.Test.YthklnopfgoekeaaDoorX6
import Derived.Test.YthklnopfgoekeaaDoorPTok
namespace Go.Proofs.YthklnopfgoekeaaDoor.X
section
open Go.RowKit Go.Proofs.YthklnopfgoekeaaDoorW.PrintWords Go.Proofs.YthklnopfgoekeaaDoorW.PrintLast Go.Proofs.YthklnopfgoekeaaDoorW.PrintMore
set_option linter.unusedVariables false
theorem scanGo_length (s : ByteArray) : ∀ (d x : Nat) (l c : Int) (ts : List S38), (scanGo s d x l c ts).1.length ≤ ts.length + d
  | 0, _, _, _, ts => by rw [scanGo]; simp
  | d + 1, x, l, c, ts => by
    rw [scanGo]
    split
    · split
      · have h1 := scanGo_length s d (x + (readOne s x).n) (lc s x l c (readOne s x).n).1 (lc s x l c (readOne s x).n).2 ((readOne s x).ts l c ts)
        have h2 := ts_length (readOne s x) l c ts
        omega
      · simp
    · simp
theorem scanAll_length (s : ByteArray) : (scanAll s).1.length ≤ 1048577 := by
  unfold scanAll
  split
  · simp
  · have := scanGo_length s (s.size + 1) 0 1 1 []
    simp only [List.length_nil] at this
    omega
theorem same_from (l : List S38) (b : Bool) (hl : l.length ≤ 1099511627776) : ∀ (n i : Nat), l.length - i ≤ n → tribunalref06_Same.l0 (2 * n + 1) l l b i = some true
  | 0, i, h => by
    rw [show 2 * 0 + 1 = 0 + 1 from rfl, tribunalref06_Same.l0, if_neg (by omega)]
  | n + 1, i, h => by
    by_cases hi : i < l.length
    · have ih := same_from l b hl n (i + 1) (by omega)
      have hw : wrap64 ((i : Int) + 1) = ((i + 1 : Nat) : Int) := by unfold wrap64; omega
      rw [show 2 * (n + 1) + 1 = (2 * n + 2) + 1 by omega, tribunalref06_Same.l0, if_pos (by omega), if_pos (by omega), if_pos (by omega), if_pos rfl, if_pos rfl, bne_self_eq_false]
      rw [show 2 * n + 2 = (2 * n + 1) + 1 by omega, tribunalref06_Same.j1, if_neg (by simp)]
      by_cases hb : b = true
      · rw [if_pos hb, if_pos (by omega), if_pos (by omega), if_pos (by omega), if_pos rfl, if_pos rfl, hw, ih]
      · rw [if_neg hb, hw, ih]
    · rw [show 2 * (n + 1) + 1 = (2 * n + 2) + 1 by omega, tribunalref06_Same.l0, if_neg (by omega)]
/-- A line of tokens is the same as itself. -/
theorem same_self (l : List S38) (b : Bool) (hl : l.length ≤ 1099511627776) : ∃ k, tribunalref06_Same.f k l l b = some true :=
  ⟨2 * l.length + 1, by unfold tribunalref06_Same.f; rw [if_pos rfl]; exact same_from l b hl l.length 0 (by omega)⟩
def awakeText : ByteArray := ⟨#[49, 50, 32, 124, 108, 101, 116, 124]⟩
theorem awake_scan : scanAll awakeText = ([⟨3, ⟨#[49, 50]⟩, false, 1, 1⟩, ⟨8, ⟨#[108, 101, 116]⟩, true, 1, 4⟩], 0, 0, 0) := by
  kernel_rfl
theorem awake_join : lexis_Join.f [⟨3, ⟨#[49, 50]⟩, false, 1, 1⟩, ⟨8, ⟨#[108, 101, 116]⟩, true, 1, 4⟩] = some (awakeText, 0) := by
  kernel_rfl
theorem awake_told : tribunallaw06_awake.f = some true := by
  unfold tribunallaw06_awake.f
  have h : lexis_Scan.f (⟨#[49, 50, 32, 124, 108, 101, 116, 124]⟩ : ByteArray) = some ([⟨3, ⟨#[49, 50]⟩, false, 1, 1⟩, ⟨8, ⟨#[108, 101, 116]⟩, true, 1, 4⟩], 0, 0, 0) := congrArg some awake_scan
  rw [h, Option.bind_some, awake_join, Option.bind_some]
  have h1 : awakeText.toList = ([49, 50, 32, 124, 108, 101, 116, 124] : List UInt8) := by kernel_rfl
  have h2 : (⟨#[108, 101, 116]⟩ : ByteArray).toList = ([108, 101, 116] : List UInt8) := by kernel_rfl
  have h3 : (rd_T38 [(⟨3, ⟨#[49, 50]⟩, false, 1, 1⟩ : S38), ⟨8, ⟨#[108, 101, 116]⟩, true, 1, 4⟩] 1) = ⟨8, ⟨#[108, 101, 116]⟩, true, 1, 4⟩ := rfl
  rw [if_pos rfl, if_pos rfl, if_pos rfl, if_pos (by decide), if_pos (by decide)]
  show (if ((rd_T38 [(⟨3, ⟨#[49, 50]⟩, false, 1, 1⟩ : S38), ⟨8, ⟨#[108, 101, 116]⟩, true, 1, 4⟩] 1).f0 == 8 && _) = true then _ else _) = _
  rw [h3, if_pos (by simp [h2]), if_pos h1]
  rfl
end
section
open Go.RowKit Go.Proofs.YthklnopfgoekeaaDoorW.PrintWords Go.Proofs.YthklnopfgoekeaaDoorW.PrintLast Go.Proofs.YthklnopfgoekeaaDoorW.PrintMore
set_option linter.unusedVariables false

def writes (t : S38) : Prop := (writeR t.f0 t.f1 t.f2).2 = 0
instance (t : S38) : Decidable (writes t) := inferInstanceAs (Decidable (_ = _))
/-- The line without its bound. -/
def joinL : List S38 → Bool → List UInt8
  | [], _ => []
  | t :: ts, g => (if (g || t.f0 == 2) = true then [] else [32]) ++ ((writeR t.f0 t.f1 t.f2).1.data.toList ++ joinL ts (t.f0 == 1))
theorem lead_acc (b : Bool) (acc : List UInt8) : (if b = true then acc else acc ++ [32]) = acc ++ (if b = true then [] else [32]) := by
  cases b <;> simp
theorem join_told : ∀ (l : List S38) (g : Bool) (acc : List UInt8), (∀ t ∈ l, writes t) → joinGo l g acc = if (acc ++ joinL l g).length ≤ 1048576 then (acc ++ joinL l g, 0) else ([], 2)
  | [], g, acc, h => by rw [joinGo, joinL, List.append_nil]
  | t :: ts, g, acc, h => by
    have h0 : writes t := h t (List.mem_cons_self ..)
    have h1 : ∀ u ∈ ts, writes u := fun u hu => h u (List.mem_cons_of_mem _ hu)
    unfold writes at h0
    rw [joinGo, if_pos h0, joinL, lead_acc]
    obtain ⟨p, hp⟩ : ∃ p, p = (if (g || t.f0 == 2) = true then [] else [32] : List UInt8) := ⟨_, rfl⟩
    rw [← hp]
    by_cases hl : (acc ++ p).length ≤ 1048576
    · rw [if_pos hl, join_told ts _ _ h1]
      unfold txt
      simp only [List.append_assoc]
    · rw [if_neg hl, join_told ts _ _ h1, if_neg (by simp only [List.length_append] at hl ⊢; omega), if_neg (by simp only [List.length_append] at hl ⊢; omega)]
theorem join_fault : ∀ (l : List S38) (g : Bool) (acc : List UInt8), ¬ (∀ t ∈ l, writes t) → (joinGo l g acc).1 = [] ∧ (joinGo l g acc).2 ≠ 0
  | [], g, acc, h => absurd (fun t ht => by cases ht) h
  | t :: ts, g, acc, h => by
    rw [joinGo]
    by_cases h0 : (writeR t.f0 t.f1 t.f2).2 = 0
    · rw [if_pos h0]
      exact join_fault ts _ _ (fun h1 => h (fun u hu => by
        rcases List.mem_cons.1 hu with rfl | hu
        · exact h0
        · exact h1 u hu))
    · rw [if_neg h0]
      exact ⟨rfl, h0⟩
theorem writes_lex {t : S38} (h : writes t) : Lex (textL t.f0 t.f1.data.toList t.f2) t.f0 t.f1.data.toList t.f2 ∧ (textL t.f0 t.f1.data.toList t.f2).length ≤ 1048576 ∧ (writeR t.f0 t.f1 t.f2).1 = strOf (textL t.f0 t.f1.data.toList t.f2) := by
  obtain ⟨r, hr⟩ : ∃ r, r = writeR t.f0 t.f1 t.f2 := ⟨_, rfl⟩
  unfold writes at h
  rw [← hr] at h ⊢
  obtain ⟨r1, r2⟩ := r
  have h : r2 = 0 := h
  subst h
  obtain ⟨tl, e1, e2, e3, e4⟩ := write_back hr.symm
  have : t.f1.data.toList = tl := by rw [e1, strOf_list]
  rw [this]
  exact ⟨e2, e3, e4⟩
def tokL (t : S38) : Int × List UInt8 × Bool := (t.f0, t.f1.data.toList, t.f2)
theorem strT_tokL (t : S38) : strT (tokL t) = bareT t := by
  unfold strT tokL bareT
  rw [strOf_data]
theorem lex_2 {w : List UInt8} {k : Int} {tx : List UInt8} {q : Bool} (h : Lex w k tx q) (hk : k = 2) : w = [41] := by
  cases h <;> first | rfl | exact absurd hk (by decide)
theorem fol_head {k : Int} {q : Bool} {c : UInt8} {r : List UInt8} (h : c ≠ 34 ∧ endC (classI (by8 c)) = true) : folB k q (c :: r) = true := by
  unfold folB
  split
  · rfl
  · split
    · exact bne_iff_ne.2 (fun e => h.1 (by8_34.1 e))
    · exact h.2
theorem joinL_layout : ∀ (l : List S38) (g : Bool), (∀ t ∈ l, writes t) → Layout (joinL l g) (l.map tokL)
  | [], g, h => .nil
  | t :: ts, g, h => by
    have h1 : ∀ u ∈ ts, writes u := fun u hu => h u (List.mem_cons_of_mem _ hu)
    obtain ⟨e1, e2, e3⟩ := writes_lex (h t (List.mem_cons_self ..))
    have ih := joinL_layout ts (t.f0 == 1) h1
    have hf : folB t.f0 t.f2 (joinL ts (t.f0 == 1)) = true := by
      cases ts with
      | nil => exact fol_end _ _
      | cons u us =>
        by_cases ht : t.f0 = 1
        · unfold folB; rw [if_pos (.inl ht)]
        · have hb : (t.f0 == 1) = false := by simpa using ht
          rw [hb, joinL]
          by_cases hu : u.f0 = 2
          · have hb2 : (u.f0 == 2) = true := by simpa using hu
            obtain ⟨f1, f2, f3⟩ := writes_lex (h1 u (List.mem_cons_self ..))
            rw [if_pos (by rw [hb2]; rfl), f3, strOf_list, lex_2 f1 hu]
            exact fol_head (by decide)
          · have hb2 : (u.f0 == 2) = false := by simpa using hu
            rw [if_neg (by rw [hb2]; decide)]
            exact fol_head (c := 32) (by decide)
    have hl := Layout.tok _ _ _ _ _ _ e1 hf ih
    rw [joinL, e3, strOf_list]
    split
    · exact hl
    · exact .blank 32 _ _ (by decide) hl
/-- A line that is laid out as some tokens is scanned as them. -/
theorem layout_scanAll {l : List UInt8} {ts : List (Int × List UInt8 × Bool)} (h : Layout l ts) (hl : l.length ≤ 1048576) : ∃ m, scanAll (strOf l) = (m, 0, 0, 0) ∧ m.map bareT = ts.map strT := by
  unfold scanAll
  rw [if_neg (by rw [strOf_size]; omega)]
  exact layout_scan (strOf l) _ 0 1 1 ts (by omega) (by rw [from_str]; exact h)
theorem scanAll_layout {s : ByteArray} {m : List S38} {a b : Int} (h : scanAll s = (m, a, b, 0)) : s.size ≤ 1048576 ∧ ∃ ts, Layout s.data.toList ts ∧ m.map bareT = ts.map strT := by
  unfold scanAll at h
  split at h
  · injection h with _ h; injection h with _ h; injection h with _ h; cases h
  · rename_i hs
    obtain ⟨ts, h1, h2⟩ := scan_layout s _ 0 1 1 m a b (by omega) h
    exact ⟨by omega, ts, h1, h2⟩
theorem wrap_next (i : Nat) (hi : i < 1099511627776) : wrap64 ((i : Int) + 1) = ((i + 1 : Nat) : Int) := by unfold wrap64; omega
theorem same_bare_from (l m : List S38) (hlm : l.length = m.length) (hb : l.map bareT = m.map bareT) (hl : l.length ≤ 1099511627776) : ∀ (n i : Nat), l.length - i ≤ n → tribunalref06_Same.l0 (2 * n + 1) l m false i = some true
  | 0, i, h => by
    rw [show 2 * 0 + 1 = 0 + 1 from rfl, tribunalref06_Same.l0, if_neg (by omega)]
  | n + 1, i, h => by
    by_cases hi : i < l.length
    · have ih := same_bare_from l m hlm hb hl n (i + 1) (by omega)
      have hw := wrap_next i (by omega)
      have he : bareT (rd_T38 l i) = bareT (rd_T38 m i) := by
        have h1 : (l.map bareT)[i]? = (m.map bareT)[i]? := by rw [hb]
        rw [List.getElem?_map, List.getElem?_map, List.getElem?_eq_getElem hi, List.getElem?_eq_getElem (by omega)] at h1
        unfold rd_T38
        simp only [Int.toNat_natCast, List.getD_eq_getElem?_getD, List.getElem?_eq_getElem hi, List.getElem?_eq_getElem (show i < m.length by omega), Option.getD_some]
        exact Option.some.inj h1
      have h0 : (rd_T38 l i).f0 = (rd_T38 m i).f0 := congrArg (fun z => z.1) he
      have h1 : (rd_T38 l i).f1 = (rd_T38 m i).f1 := congrArg (fun z => z.2.1) he
      have h2 : (rd_T38 l i).f2 = (rd_T38 m i).f2 := congrArg (fun z => z.2.2) he
      rw [show 2 * (n + 1) + 1 = (2 * n + 2) + 1 by omega, tribunalref06_Same.l0, if_pos (by omega), if_pos (by omega), if_pos (by omega), if_pos h0, if_pos (by rw [h1]), h2, bne_self_eq_false]
      rw [show 2 * n + 2 = (2 * n + 1) + 1 by omega, tribunalref06_Same.j1, if_neg (by simp), if_neg (by simp), hw, ih]
    · rw [show 2 * (n + 1) + 1 = (2 * n + 2) + 1 by omega, tribunalref06_Same.l0, if_neg (by omega)]
/-- Lines of tokens that differ in places alone are the same. -/
theorem same_bare {l m : List S38} (hb : l.map bareT = m.map bareT) (hl : l.length ≤ 1099511627776) : ∃ k, tribunalref06_Same.f k l m false = some true := by
  have hlm : l.length = m.length := by
    have := congrArg List.length hb
    rwa [List.length_map, List.length_map] at this
  exact ⟨2 * l.length + 1, by unfold tribunalref06_Same.f; rw [if_pos (by rw [hlm])]; exact same_bare_from l m hlm hb hl l.length 0 (by omega)⟩
/-- What is joined: the line, or none and a fault. -/
theorem joinR_cases (l : List S38) : ((∀ t ∈ l, writes t) ∧ (joinL l true).length ≤ 1048576 ∧ joinR l = (strOf (joinL l true), 0)) ∨ ((joinR l).2 ≠ 0 ∧ (joinR l).1 = strOf []) := by
  by_cases h : ∀ t ∈ l, writes t
  · have := join_told l true [] h
    rw [List.nil_append] at this
    by_cases hl : (joinL l true).length ≤ 1048576
    · left
      rw [if_pos hl] at this
      exact ⟨h, hl, by unfold joinR; rw [this]⟩
    · right
      rw [if_neg hl] at this
      unfold joinR
      rw [this]
      exact ⟨by decide, rfl⟩
  · right
    obtain ⟨h1, h2⟩ := join_fault l true [] h
    unfold joinR
    rw [h1]
    exact ⟨h2, rfl⟩
/-- What is joined is scanned as the same tokens. -/
theorem join_scan {l : List S38} (h : ∀ t ∈ l, writes t) (hl : (joinL l true).length ≤ 1048576) : ∃ m, scanAll (strOf (joinL l true)) = (m, 0, 0, 0) ∧ l.map bareT = m.map bareT := by
  obtain ⟨m, h1, h2⟩ := layout_scanAll (joinL_layout l true h) hl
  refine ⟨m, h1, ?_⟩
  rw [h2, List.map_map]
  exact (List.map_congr_left (fun t _ => strT_tokL t)).symm
end
end Go.Proofs.YthklnopfgoekeaaDoor.X
