/- LexisPlaces: the rounds of the statement's walk over a text. LexisPlaces: at each token's place stands what it is written with, between them blanks and comments alone: the pure part. -/
import Derived.Test.YthklnopfgoekeaaDoorPTok
import Derived.Test.YthklnopfgoekeaaDoorPJoin
import Derived.Test.YthklnopfgoekeaaDoorX15
namespace Go.Proofs.YthklnopfgoekeaaDoor.X
section
open Go.RowKit Go.Proofs.YthklnopfgoekeaaDoorW.PrintWords Go.Proofs.YthklnopfgoekeaaDoorW.PrintLast Go.Proofs.YthklnopfgoekeaaDoorW.PrintMore
set_option linter.unusedVariables false
theorem wrapN {a : Int} (h0 : -9223372036854775808 ≤ a) (h1 : a < 9223372036854775808) : wrap64 a = a := by unfold wrap64; omega
theorem lc_plus (s : ByteArray) (x l c : Int) (a : Nat) : ∀ b : Nat, lc s x l c (a + b) = lc s (x + a) (lc s x l c a).1 (lc s x l c a).2 b
  | 0 => rfl
  | b + 1 => by
    have e : x + ((a + b : Nat) : Int) = x + (a : Int) + (b : Int) := by omega
    rw [← Nat.add_assoc, lc, lc, lc_plus s x l c a b, e]
theorem dbl_ge : ∀ t : List UInt8, t.length ≤ (dblL t).length
  | [] => Nat.le_refl _
  | c :: t => by
    have := dbl_ge t
    rw [dblL]
    split
    · show t.length + 1 ≤ (dblL t).length + 1 + 1
      omega
    · show t.length + 1 ≤ (dblL t).length + 1
      omega
theorem text_ge (k : Int) (tx : List UInt8) (q : Bool) : tx.length ≤ (textL k tx q).length := by
  have := dbl_ge tx
  unfold textL
  by_cases h5 : k = 5
  · rw [if_pos h5, List.length_cons, List.length_cons]; omega
  · rw [if_neg h5]
    by_cases h6 : k = 6
    · rw [if_pos h6, List.length_cons, List.length_cons]; omega
    · rw [if_neg h6]
      by_cases h9 : k = 9
      · rw [if_pos h9, List.length_cons]; omega
      · rw [if_neg h9]
        by_cases h7 : k = 7
        · rw [if_pos h7, List.length_cons, List.length_append]; omega
        · rw [if_neg h7]
          by_cases h8 : k = 8 ∧ q = true
          · rw [if_pos h8, List.length_cons, List.length_append]; omega
          · rw [if_neg h8]; exact Nat.le_refl _
theorem lc_later (s : ByteArray) (x l c : Int) : ∀ n : Nat, l < (lc s x l c n).1 ∨ ((lc s x l c n).1 = l ∧ (lc s x l c n).2 = c + n)
  | 0 => .inr ⟨rfl, by show c = c + ((0 : Nat) : Int); omega⟩
  | n + 1 => by
    have ih := lc_later s x l c n
    rw [lc]
    split
    · left; show l < _ + 1; omega
    · rcases ih with h | ⟨h1, h2⟩
      · exact .inl h
      · right; exact ⟨h1, by show _ + 1 = _; omega⟩
theorem lc_plain (s : ByteArray) (x l c : Int) : ∀ n : Nat, (∀ j : Nat, j < n → bt s (x + j) ≠ 10) → lc s x l c n = (l, c + n)
  | 0, h => by show (l, c) = (l, c + ((0 : Nat) : Int)); congr 1; omega
  | n + 1, h => by
    rw [lc, if_neg (h n (by omega)), lc_plain s x l c n (fun j hj => h j (by omega))]
    show (l, c + n + 1) = _
    congr 1; omega
theorem lc_same (s t : ByteArray) (x y l c : Int) : ∀ n : Nat, (∀ j : Nat, j < n → bt s (x + j) = bt t (y + j)) → lc s x l c n = lc t y l c n
  | 0, h => rfl
  | n + 1, h => by
    rw [lc, lc, h n (by omega), lc_same s t x y l c n (fun j hj => h j (by omega))]
/-- The next token lies at the place or behind. -/
theorem scan_later (s : ByteArray) : ∀ (d x : Nat) (l c a b : Int) (t : S38) (ts : List S38), scanGo s d x l c [] = (t :: ts, a, b, 0) → s.size - x < d → l < t.f3 ∨ (t.f3 = l ∧ c ≤ t.f4)
  | 0, x, l, c, a, b, t, ts, h, hd0 => by omega
  | d + 1, x, l, c, a, b, t, ts, h, hd0 => by
    by_cases hx : x < s.size
    · by_cases he : (readOne s x).err = 0
      · obtain ⟨hg, hg2⟩ := (readOne_goes s x hx).pos he
        rw [scanGo_more hx he] at h
        have hl := lc_later s x l c (readOne s x).n
        cases hr : readOne s x with
        | mk err tok n =>
          rw [hr] at h he hg hg2 hl
          cases tok with
          | some p =>
            obtain ⟨k, tx, q⟩ := p
            rw [scan_acc s d _ _ _ _ (by omega)] at h
            injection h with h1 h2
            split at h1
            · have h1 : [(⟨k, tx, q, l, c⟩ : S38)] ++ _ = t :: ts := h1
              rw [List.singleton_append] at h1
              injection h1 with h1 _
              subst h1
              exact .inr ⟨rfl, Int.le_refl _⟩
            · cases h1
          | none =>
            have h : scanGo s d (x + n) (lc s x l c n).1 (lc s x l c n).2 [] = (t :: ts, a, b, 0) := h
            have hg : 0 < n := hg
            obtain ⟨l', hl'⟩ : ∃ l', l' = (lc s x l c n).1 := ⟨_, rfl⟩
            obtain ⟨c', hc'⟩ : ∃ c', c' = (lc s x l c n).2 := ⟨_, rfl⟩
            have hl : l < (lc s x l c n).1 ∨ ((lc s x l c n).1 = l ∧ (lc s x l c n).2 = c + n) := hl
            rw [← hl', ← hc'] at hl h
            have := scan_later s d (x + n) l' c' a b t ts h (by omega)
            clear hl' hc' h
            omega
      · rw [scanGo_bad hd0 hx he] at h
        injection h with h1 _
        cases h1
    · rw [scanGo_end hd0 hx] at h
      injection h with h1 _
      cases h1
theorem l1_run (s : ByteArray) (m : List S38) (x : Nat) (k : Nat) (t : ByteArray) (K : Nat) (hx : x + t.size ≤ 1048576) (hk : k ≤ 1048577) : ∀ (n i : Nat) (l c : Int), i + n = t.size → 0 ≤ l → l + n ≤ 4294967296 → 0 ≤ c → c + n ≤ 4294967296 → tribunallaw06_LexisPlaces.l1 (K + n + 1) s m x l c k t i = tribunallaw06_LexisPlaces.l0 K s m ((x + t.size : Nat) : Int) (lc t i l c n).1 (lc t i l c n).2 ((k + 1 : Nat) : Int)
  | 0, i, l, c, hi, n1, n2, n3, n4 => by
    rw [tribunallaw06_LexisPlaces.l1, if_neg (by omega), wrapN (by omega) (by omega), wrapN (by omega) (by omega)]
    rfl
  | n + 1, i, l, c, hi, n1, n2, n3, n4 => by
    have ih := fun l' c' => l1_run s m x k t K hx hk n (i + 1) l' c' (by omega)
    have e1 : wrap64 ((i : Int) + 1) = ((i + 1 : Nat) : Int) := by rw [wrapN (by omega) (by omega)]; omega
    have e2 : (i : Int) + 1 = ((i + 1 : Nat) : Int) := by omega
    have hadd := lc_plus t i l c 1 n
    rw [Nat.add_comm 1 n] at hadd
    have e3 : (i : Int) + ((1 : Nat) : Int) = ((i + 1 : Nat) : Int) := by omega
    rw [e3] at hadd
    have h1 : lc t i l c 1 = if bt t i = 10 then (l + 1, 1) else (l, c + 1) := by
      rw [lc, lc]
      have e0 : (i : Int) + ((0 : Nat) : Int) = i := by omega
      rw [e0]
    rw [show K + (n + 1) + 1 = (K + n + 1) + 1 by omega, tribunallaw06_LexisPlaces.l1, if_pos (by omega), if_pos (by omega), hadd, h1, e1]
    by_cases hb : bt t i = 10
    · rw [if_pos hb, if_pos hb, wrapN (a := l + 1) (by omega) (by omega)]
      exact ih (l + 1) 1 (by omega) (by omega) (by omega) (by omega)
    · rw [if_neg hb, if_neg hb, wrapN (a := c + 1) (by omega) (by omega)]
      exact ih l (c + 1) (by omega) (by omega) (by omega) (by omega)
theorem l2_run (s : ByteArray) (m : List S38) (l : Int) (k : Int) (K : Nat) (hz : s.size ≤ 1048576) : ∀ (n x : Nat) (c : Int), x + n ≤ s.size → spanN notNlB (from_ s x) = n → 1 ≤ c → c ≤ x + 1 → tribunallaw06_LexisPlaces.l2 (K + n + 1) s m x l c k = tribunallaw06_LexisPlaces.l0 K s m ((x + n : Nat) : Int) l (c + n) k
  | 0, x, c, hx, hn, hc1, hc2 => by
    have e : c + ((0 : Nat) : Int) = c := by omega
    rw [tribunallaw06_LexisPlaces.l2, e]
    by_cases h : x < s.size
    · obtain ⟨c0, h1, h2⟩ := from_cons h
      rw [h1, spanN] at hn
      have hb : bt s x = 10 := by
        rw [h2]
        by_cases hp : notNlB (by8 c0) = true
        · rw [if_pos hp] at hn; omega
        · simpa [notNlB] using hp
      rw [if_pos (by omega), if_pos (by omega), if_pos hb]
      rfl
    · rw [if_neg (by omega)]
      rfl
  | n + 1, x, c, hx, hn, hc1, hc2 => by
    obtain ⟨c0, h1, h2⟩ := from_cons (s := s) (x := x) (by omega)
    rw [h1, spanN] at hn
    have hp : notNlB (by8 c0) = true := by
      by_cases hp : notNlB (by8 c0) = true
      · exact hp
      · rw [if_neg hp] at hn; omega
    rw [if_pos hp] at hn
    have hb : ¬ bt s x = 10 := by
      rw [h2]
      simpa [notNlB] using hp
    have e1 : wrap64 ((x : Int) + 1) = ((x + 1 : Nat) : Int) := by rw [wrapN (by omega) (by omega)]; omega
    rw [show K + (n + 1) + 1 = (K + n + 1) + 1 by omega, tribunallaw06_LexisPlaces.l2, if_pos (by omega), if_pos (by omega), if_neg hb, e1, wrapN (a := c + 1) (by omega) (by omega), l2_run s m l k K hz n (x + 1) (c + 1) (by omega) (by omega) (by omega) (by omega)]
    have e2 : x + 1 + n = x + (n + 1) := by omega
    have e3 : c + 1 + (n : Int) = c + ((n + 1 : Nat) : Int) := by omega
    rw [e2, e3]
theorem hd_lt {w rest : List UInt8} {j : Nat} (h : j < w.length) : hd ((w ++ rest).drop j) = hd (w.drop j) := by
  rw [List.drop_append_of_le_length (by omega), hd_app]
  intro e
  have := congrArg List.length e
  rw [List.length_drop, List.length_nil] at this
  omega
theorem blank_class : ∀ c : Int, 0 ≤ c → c < 256 → (classI c = 1 → tribunalref06_Blank.f c = some true ∧ c ≠ 59) := by
  have h : ∀ c : Fin 256, classI ((c.val : Nat) : Int) = 1 → tribunalref06_Blank.f ((c.val : Nat) : Int) = some true ∧ ((c.val : Nat) : Int) ≠ 59 := by decide +kernel
  intro c h0 h1 hc
  have := h ⟨c.toNat, by omega⟩
  have e : ((c.toNat : Nat) : Int) = c := by omega
  simp only [e] at this
  exact this hc
theorem hex_no : ∀ c : UInt8, hexB (by8 c) = true → by8 c ≠ 10 := by8_all (P := fun c => hexB c = true → c ≠ 10) (by decide +kernel)
theorem all_no {h : List UInt8} (hh : allP hexB h = true) : ∀ j, j < (35 :: 120 :: h).length → hd ((35 :: 120 :: h).drop j) ≠ 10 := by
  intro j hj
  rw [List.drop_eq_getElem_cons hj]
  show by8 _ ≠ 10
  match j, hj with
  | 0, _ => exact (by decide : by8 35 ≠ 10)
  | 1, _ => exact (by decide : by8 120 ≠ 10)
  | j + 2, hj => exact hex_no _ (List.all_eq_true.1 hh _ (List.getElem_mem (by simpa using hj)))
theorem lex_5 {w : List UInt8} {k : Int} {tx : List UInt8} {q : Bool} (h : Lex w k tx q) (hk : k = 5) : ∃ h0, w = 35 :: 120 :: h0 ∧ allP hexB h0 = true := by
  cases h <;> first | exact absurd hk (by decide) | skip
  rename_i h h0 hh
  exact ⟨h, rfl, hh⟩
theorem rd_drop {m : List S38} {k : Nat} {t : S38} {ts : List S38} (h : m.drop k = t :: ts) : k < m.length ∧ rd_T38 m k = t ∧ m.drop (k + 1) = ts := by
  have hk : k < m.length := by
    rcases Nat.lt_or_ge k m.length with h1 | h1
    · exact h1
    · rw [List.drop_eq_nil_of_le h1] at h; cases h
  rw [List.drop_eq_getElem_cons hk] at h
  injection h with h1 h2
  refine ⟨hk, ?_, h2⟩
  unfold rd_T38
  simp only [Int.toNat_natCast, List.getD_eq_getElem?_getD, List.getElem?_eq_getElem hk, Option.getD_some, h1]
end
section
open Go.RowKit Go.Proofs.YthklnopfgoekeaaDoorW.PrintWords Go.Proofs.YthklnopfgoekeaaDoorW.PrintLast Go.Proofs.YthklnopfgoekeaaDoorW.PrintMore
set_option linter.unusedVariables false
/-- At a token's place. -/
theorem place_tok (s : ByteArray) (m : List S38) (x k K : Nat) (l c : Int) (ki : Int) (txl w rest : List UInt8) (q : Bool) (hz : s.size ≤ 1048576) (hk : k < m.length) (hm : m.length ≤ 1048577)
    (k2 : rd_T38 m k = ⟨ki, strOf txl, q, l, c⟩) (e1 : from_ s x = w ++ rest) (e4 : Lex w ki txl q) (l1 : 0 ≤ l) (l2 : l ≤ 1048577) (c1 : 0 ≤ c) (c2 : c ≤ 1048577) :
    tribunallaw06_LexisPlaces.l0 (K + w.length + 4) s m x l c k = tribunallaw06_LexisPlaces.l0 K s m ((x + w.length : Nat) : Int) (lc s x l c w.length).1 (lc s x l c w.length).2 ((k + 1 : Nat) : Int) := by
  obtain ⟨n, hn⟩ : ∃ n, n = w.length := ⟨_, rfl⟩
  have hfl := from_length s x
  rw [e1, List.length_append, ← hn] at hfl
  have hpos := lex_pos e4
  obtain ⟨d1, d2, d3⟩ := lex_canon e4
  rw [← hn] at hpos d2 ⊢
  have hxn : x + n ≤ s.size := by omega
  have htx := text_ge ki txl q
  have hw : lexis_Write.f ki (strOf txl) q l c = some (strOf (textL ki txl q), 0) := by
    unfold lexis_Write.f
    rw [if_pos (by rw [strOf_size]; omega), lex_write d1 (by omega)]
  obtain ⟨t, ht⟩ : ∃ t, t = strOf (textL ki txl q) := ⟨_, rfl⟩
  have htn : t.size = n := by rw [ht, strOf_size, d2]
  rw [← ht] at hw
  have hlc : lc t ((0 : Nat) : Int) l c n = lc s x l c n := by
    by_cases h5 : ki = 5
    · obtain ⟨z1, z2, z3⟩ := lex_5 d1 h5
      obtain ⟨y1, y2, y3⟩ := lex_5 e4 h5
      rw [lc_plain t _ l c n, lc_plain s x l c n]
      · intro j hj
        have e : (x : Int) + (j : Nat) = ((x + j : Nat) : Int) := by omega
        rw [e, bt_from, ← from_drop, e1, hd_lt (by omega), y2]
        exact all_no y3 j (by rw [← y2, ← hn]; exact hj)
      · intro j hj
        have e : ((0 : Nat) : Int) + (j : Nat) = ((j : Nat) : Int) := by omega
        rw [e, bt_from, ht, from_str, z2]
        exact all_no z3 j (by rw [← z2, d2]; exact hj)
    · refine lc_same t s _ _ l c n ?_
      intro j hj
      have e : (x : Int) + (j : Nat) = ((x + j : Nat) : Int) := by omega
      have e0 : ((0 : Nat) : Int) + (j : Nat) = ((j : Nat) : Int) := by omega
      rw [e, e0, bt_from, bt_from, ht, from_str, d3 h5, ← from_drop, e1, hd_lt (by omega)]
  have hrun := l1_run s m x k t K (by omega) (by omega) n 0 l c (by omega) (by omega) (by omega) (by omega) (by omega)
  rw [hlc, htn] at hrun
  rw [show K + n + 4 = (K + n + 1) + 1 + 1 + 1 by omega, tribunallaw06_LexisPlaces.l0, if_pos (by omega), if_pos (by omega), if_pos (by omega), if_pos (by omega), k2, if_pos rfl, beq_self_eq_true]
  rw [tribunallaw06_LexisPlaces.j1, if_pos rfl, if_pos (by omega), if_pos (by omega), k2, hw, Option.bind_some, if_pos rfl]
  have hj2 : tribunallaw06_LexisPlaces.j2 (K + n + 1 + 1) s m x l c k t false = tribunallaw06_LexisPlaces.l0 K s m ((x + n : Nat) : Int) (lc s x l c n).1 (lc s x l c n).2 ((k + 1 : Nat) : Int) := by
    rw [tribunallaw06_LexisPlaces.j2, if_neg (by decide)]
    exact hrun
  have hwt : wrap64 ((s.size : Int) - x) = (s.size : Int) - x := wrapN (by omega) (by omega)
  have g0 : (0 : Int) ≤ x := by omega
  have g1 : ¬ (t.size : Int) = 0 := by omega
  have g2 : ¬ (t.size : Int) > (s.size : Int) - x := by omega
  have g3 : (x : Int) ≤ ((x + n : Nat) : Int) := by omega
  have g4 : ((x + n : Nat) : Int) ≤ (s.size : Int) := by omega
  dsimp only
  rw [if_neg g1, hwt, if_neg g2]
  by_cases h5 : ki = 5
  · obtain ⟨y1, y2, y3⟩ := lex_5 e4 h5
    have hwl : w.length ≥ 2 := by rw [y2]; simp
    have ew : wrap64 ((x : Int) + 2) = ((x + 2 : Nat) : Int) := by rw [wrapN (by omega) (by omega)]; omega
    have hx2 : (from_ s x).take 2 = ([35, 120] : List UInt8) := by
      rw [e1, y2]
      rfl
    have hex : (s.extract x (x + 2)).toList = ([35, 120] : List UInt8) := by
      rw [extract_from, hx2, ByteArray.toList_eq, strOf_list]
    have g5 : (x : Int) ≤ ((x + 2 : Nat) : Int) := by omega
    have g6 : ((x + 2 : Nat) : Int) ≤ (s.size : Int) := by omega
    rw [if_pos h5, if_pos g0, ew, if_pos g5, if_pos g6, Int.toNat_natCast, Int.toNat_natCast, hex]
    exact hj2
  · have ew : wrap64 ((x : Int) + (t.size : Int)) = ((x + n : Nat) : Int) := by rw [wrapN (by omega) (by omega)]; omega
    have hex : (s.extract x (x + n)).toList = t.toList := by
      rw [extract_from, e1, hn, List.take_left, ht, d3 h5]
    rw [if_neg h5, if_pos g0, ew, if_pos g3, if_pos g4, Int.toNat_natCast, Int.toNat_natCast, if_pos hex]
    exact hj2
/-- Where no token begins the round goes on to the byte. -/
theorem place_not (s : ByteArray) (m : List S38) (x k K : Nat) (l c : Int) (hx : x < s.size) (hno : ∀ t ts, m.drop k = t :: ts → ¬ (t.f3 = l ∧ t.f4 = c)) : tribunallaw06_LexisPlaces.l0 (K + 1) s m x l c k = tribunallaw06_LexisPlaces.j1 K s m x l c k (bt s x) false := by
  rw [tribunallaw06_LexisPlaces.l0, if_pos (by omega), if_pos (by omega)]
  by_cases hkl : k < m.length
  · rw [if_pos (by omega), if_pos (by omega)]
    have hdr := List.drop_eq_getElem_cons hkl
    obtain ⟨k1, k2, k3⟩ := rd_drop hdr
    have hn := hno _ _ hdr
    rw [k2]
    by_cases hf : (m[k]).f3 = l
    · have hne : ¬ (m[k]).f4 = c := fun h => hn ⟨hf, h⟩
      rw [if_pos hf, beq_eq_false_iff_ne.2 hne]
    · rw [if_neg hf]
  · rw [if_neg (by omega)]
theorem place_blank (s : ByteArray) (m : List S38) (x k K : Nat) (l c : Int) (hz : s.size ≤ 1048576) (hx : x < s.size) (hcl : classI (bt s x) = 1) (hno : ∀ t ts, m.drop k = t :: ts → ¬ (t.f3 = l ∧ t.f4 = c)) (l1 : 0 ≤ l) (l2 : l ≤ 1048577) (c1 : 0 ≤ c) (c2 : c ≤ 1048577) :
    tribunallaw06_LexisPlaces.l0 (K + 2) s m x l c k = tribunallaw06_LexisPlaces.l0 K s m ((x + 1 : Nat) : Int) (lc s x l c 1).1 (lc s x l c 1).2 k := by
  have h1 : lc s x l c 1 = if bt s x = 10 then (l + 1, 1) else (l, c + 1) := by
    rw [lc, lc]
    have e0 : (x : Int) + ((0 : Nat) : Int) = x := by omega
    rw [e0]
  obtain ⟨c0, hc0, hb0⟩ := from_cons hx
  obtain ⟨hbl, h59⟩ := blank_class (bt s x) (by rw [hb0]; unfold by8; omega) (by rw [hb0]; unfold by8; have := c0.toNat_lt; omega) hcl
  have e1 : wrap64 ((x : Int) + 1) = ((x + 1 : Nat) : Int) := by rw [wrapN (by omega) (by omega)]; omega
  rw [show K + 2 = (K + 1) + 1 by omega, place_not s m x k (K + 1) l c hx hno, tribunallaw06_LexisPlaces.j1, if_neg (by decide), if_neg h59, hbl, Option.bind_some, if_pos rfl, e1, h1]
  by_cases hnl : bt s x = 10
  · rw [if_pos hnl, if_pos hnl, wrapN (a := l + 1) (by omega) (by omega)]
  · rw [if_neg hnl, if_neg hnl, wrapN (a := c + 1) (by omega) (by omega)]
theorem place_comment (s : ByteArray) (m : List S38) (x k K n : Nat) (l c : Int) (hz : s.size ≤ 1048576) (hx : x < s.size) (hcl : classI (hd (from_ s x)) = 2) (hn : n = spanN notNlB (from_ s x)) (hxn : x + n ≤ s.size) (hno : ∀ t ts, m.drop k = t :: ts → ¬ (t.f3 = l ∧ t.f4 = c)) (c1 : 1 ≤ c) (c2 : c ≤ x + 1) :
    tribunallaw06_LexisPlaces.l0 (K + n + 3) s m x l c k = tribunallaw06_LexisPlaces.l0 K s m ((x + n : Nat) : Int) (lc s x l c n).1 (lc s x l c n).2 k := by
  obtain ⟨c0, hc0, hb0⟩ := from_cons hx
  have h59 : bt s x = 59 := by
    rw [hb0]
    exact (class_facts c0).2.2.2.2.2.2.2.2 (by rw [hc0] at hcl; exact hcl)
  have hlc : lc s x l c n = (l, c + n) := by
    refine lc_plain s x l c n ?_
    intro j hj
    have e : (x : Int) + (j : Nat) = ((x + j : Nat) : Int) := by omega
    rw [e, bt_from, ← from_drop]
    have h6 := span_take notNlB (from_ s x)
    rw [← hn] at h6
    have h7 : (from_ s x).length = s.size - x := from_length s x
    have hj2 : j < (from_ s x).length := by omega
    rw [List.drop_eq_getElem_cons hj2]
    have h8 := List.all_eq_true.1 h6 ((from_ s x)[j]) (by
      rw [List.mem_take_iff_getElem]
      exact ⟨j, by omega, rfl⟩)
    show by8 _ ≠ 10
    simpa [notNlB] using h8
  rw [hlc, show K + n + 3 = (K + n + 1 + 1) + 1 by omega, place_not s m x k (K + n + 1 + 1) l c hx hno, tribunallaw06_LexisPlaces.j1, if_neg (by decide), if_pos h59, l2_run s m l k K hz n x c hxn hn.symm c1 c2]
theorem places_run (s : ByteArray) (m : List S38) (hm : m.length ≤ 1048577) (hz : s.size ≤ 1048576) : ∀ (d x : Nat) (l c : Int) (k : Nat) (rem : List S38), s.size - x < d → x ≤ s.size → Nb s x l c → m.drop k = rem → k ≤ m.length → scanGo s d x l c [] = (rem, 0, 0, 0) → ∃ K, tribunallaw06_LexisPlaces.l0 K s m x l c k = some true
  | 0, x, l, c, k, rem, hd0, hx0, hN, hk, hkm, h => by omega
  | d + 1, x, l, c, k, rem, hd0, hx0, hN, hk, hkm, h => by
    obtain ⟨n1, n2, n3, n4, n5, n6, n7⟩ := hN
    by_cases hx : x < s.size
    · by_cases he : (readOne s x).err = 0
      · obtain ⟨hg, hg2⟩ := (readOne_goes s x hx).pos he
        rw [scanGo_more hx he] at h
        have hN2 := lc_bounds (s := s) (x := x) (l := l) (c := c) ⟨n1, n2, n3, n4, n5, n6, n7⟩ (readOne s x).n (by omega)
        rw [← Int.natCast_add] at hN2
        have hro := readOne_L s x
        obtain ⟨err, tok, n, hr⟩ : ∃ err tok n, readOne s x = ⟨err, tok, n⟩ := ⟨_, _, _, rfl⟩
        rw [hr] at h he hg hg2 hro hN2
        have he : err = 0 := he
        have hg : 0 < n := hg
        have hg2 : x + n ≤ s.size := hg2
        have hN2 : Nb s ((x + n : Nat) : Int) (lc s x l c n).1 (lc s x l c n).2 := hN2
        clear hr
        subst he
        cases tok with
        | some p =>
          obtain ⟨ki, tx, q⟩ := p
          obtain ⟨w, rest, txl, e1, e2, e3, e4, e5⟩ := (read_lex hro.symm).told
          have h : scanGo s d (x + n) (lc s x l c n).1 (lc s x l c n).2 [(⟨ki, tx, q, l, c⟩ : S38)] = (rem, 0, 0, 0) := h
          rw [scan_acc s d _ _ _ _ (by omega)] at h
          injection h with h1 h2
          rw [h2, if_pos rfl, List.singleton_append] at h1
          rw [← h1] at hk
          obtain ⟨k1, k2, k3⟩ := rd_drop hk
          obtain ⟨K, hK⟩ := places_run s m hm hz d (x + n) _ _ (k + 1) _ (by omega) hg2 hN2 k3 (by omega) (Prod.ext rfl h2)
          rw [e3] at k2
          have hn : w.length = n := e2
          have hp := place_tok s m x k K l c ki txl w rest q hz k1 hm k2 e1 e4 (by omega) (by omega) (by omega) (by omega)
          rw [hn, hK] at hp
          exact ⟨_, hp⟩
        | none =>
          have h : scanGo s d (x + n) (lc s x l c n).1 (lc s x l c n).2 [] = (rem, 0, 0, 0) := h
          obtain ⟨K, hK⟩ := places_run s m hm hz d (x + n) _ _ k rem (by omega) hg2 hN2 hk hkm h
          have hno : ∀ t ts, m.drop k = t :: ts → ¬ (t.f3 = l ∧ t.f4 = c) := by
            intro t ts hts
            rw [hk] at hts
            rw [hts] at h
            have hlat := scan_later s d (x + n) _ _ 0 0 t ts h (by omega)
            have hl := lc_later s x l c n
            obtain ⟨l', hl'⟩ : ∃ l', l' = (lc s x l c n).1 := ⟨_, rfl⟩
            obtain ⟨c', hc'⟩ : ∃ c', c' = (lc s x l c n).2 := ⟨_, rfl⟩
            rw [← hl', ← hc'] at hlat hl
            clear hl' hc' h hK hN2
            omega
          rcases read_none hro.symm with ⟨hc, hn1⟩ | ⟨hc, hn1⟩
          · subst hn1
            have hp := place_blank s m x k K l c hz hx (by rw [bt_from]; exact hc) hno (by omega) (by omega) (by omega) (by omega)
            rw [hK] at hp
            exact ⟨_, hp⟩
          · have hp := place_comment s m x k K n l c hz hx hc hn1 hg2 hno n6 n7
            rw [hK] at hp
            exact ⟨_, hp⟩
      · rw [scanGo_bad hd0 hx he] at h
        injection h with _ h
        injection h with _ h
        injection h with _ h
        exact absurd h he
    · rw [scanGo_end hd0 hx] at h
      injection h with h1 _
      rw [← h1] at hk
      have hkl : m.length ≤ k := by
        have := congrArg List.length hk
        rw [List.length_drop, List.length_nil] at this
        omega
      refine ⟨1, ?_⟩
      rw [tribunallaw06_LexisPlaces.l0, if_neg (by omega)]
      have : k = m.length := by omega
      rw [this, beq_self_eq_true]
theorem lexisPlaces_pure : tribunallaw06_LexisPlaces.Pure := by
  intro a0 _
  have hs : lexis_Scan.f a0 = some (scanAll a0) := rfl
  unfold tribunallaw06_LexisPlaces.f
  obtain ⟨m, a, b, e, hsc⟩ : ∃ m a b e, scanAll a0 = (m, a, b, e) := ⟨_, _, _, _, rfl⟩
  have hml := scanAll_length a0
  rw [hsc] at hs hml
  by_cases he : e = 0
  · subst he
    have hsc2 := hsc
    unfold scanAll at hsc2
    split at hsc2
    · injection hsc2 with _ h; injection h with _ h; injection h with _ h; cases h
    · rename_i hsz
      have hab : a = 0 ∧ b = 0 := by
        obtain ⟨ts, hL, hb⟩ := (scanAll_layout hsc).2
        obtain ⟨m2, h3, h4⟩ := layout_scanAll hL (by show a0.size ≤ _; omega)
        rw [strOf_data, hsc] at h3
        injection h3 with _ h3; injection h3 with h3 h5; injection h5 with h5 _
        exact ⟨h3, h5⟩
      obtain ⟨rfl, rfl⟩ := hab
      obtain ⟨K, hK⟩ := places_run a0 m hml (by omega) (a0.size + 1) 0 1 1 0 m (by omega) (by omega) ⟨by omega, by omega, by omega, by omega, by omega, by omega, by omega⟩ rfl (by omega) hsc2
      refine ⟨K, ?_⟩
      rw [awake_told, Option.bind_some, if_pos rfl, hs, Option.bind_some, if_pos rfl]
      exact hK
  · refine ⟨1, ?_⟩
    rw [awake_told, Option.bind_some, if_pos rfl, hs, Option.bind_some, if_neg he]
end
end Go.Proofs.YthklnopfgoekeaaDoor.X
