import Derived.Test.YthklnopfgoekeaaDoorHQuote
import Derived.Lib.IndexLaws
namespace Go.Proofs.YthklnopfgoekeaaDoor.X
open Go.RowKit Go.Proofs.YthklnopfgoekeaaDoorW.PrintWords Go.Proofs.YthklnopfgoekeaaDoorW.PrintLast Go.Proofs.YthklnopfgoekeaaDoorW.PrintMore
set_option linter.unusedVariables false

/-- Each quote twice. -/
def dblL : List UInt8 → List UInt8
  | [] => []
  | b :: l => if b = 34 then 34 :: 34 :: dblL l else b :: dblL l
theorem dblL_append (a b : List UInt8) : dblL (a ++ b) = dblL a ++ dblL b := by
  induction a with
  | nil => rfl
  | cons x a ih =>
    rw [List.cons_append, dblL, dblL]
    split <;> simp [ih]
theorem dblL_none (l : List UInt8) (h : ∀ k : Nat, l[k]? ≠ some 34) : dblL l = l := by
  induction l with
  | nil => rfl
  | cons x l ih =>
    rw [dblL, if_neg (fun hx => h 0 (by simp [hx])), ih (fun k => by have := h (k + 1); simpa using this)]
theorem dblL_length (l : List UInt8) : (dblL l).length ≤ 2 * l.length := by
  induction l with
  | nil => simp [dblL]
  | cons x l ih =>
    rw [dblL]
    split <;> simp <;> omega
theorem count_zero {l : List UInt8} (h : l.count 34 = 0) : ∀ k : Nat, l[k]? ≠ some 34 := by
  intro k hk
  have := List.count_pos_iff.2 (List.mem_of_getElem? hk)
  omega
theorem index_pos {l : List UInt8} (h : 1 ≤ l.count 34) : ∃ d : Nat, Lib.indexByte l 34 = d := by
  have hge := Lib.indexByte_ge l 34
  rcases Int.lt_or_le (Lib.indexByte l 34) 0 with h1 | h1
  · exfalso
    have e : Lib.indexByte l 34 = -1 := by omega
    have := Lib.indexByte_none e
    obtain ⟨k, hk, e2⟩ := List.getElem_of_mem (List.count_pos_iff.1 (show 0 < l.count 34 by omega))
    exact this k (by rw [List.getElem?_eq_getElem hk, e2])
  · exact ⟨(Lib.indexByte l 34).toNat, by omega⟩
theorem split_first {l : List UInt8} {d : Nat} (h : Lib.indexByte l 34 = d) : d < l.length ∧ dblL (l.take (d + 1)) = l.take d ++ [34, 34] ∧ (l.drop (d + 1)).count 34 + 1 = l.count 34 := by
  obtain ⟨h1, h2⟩ := Lib.indexByte_some h
  have hd : d < l.length := by
    obtain ⟨h3, _⟩ := List.getElem?_eq_some_iff.1 h1
    exact h3
  have hb : l[d] = 34 := by rw [List.getElem?_eq_getElem hd] at h1; injection h1
  have hno : ∀ k : Nat, (l.take d)[k]? ≠ some 34 := by
    intro k hk
    rcases Nat.lt_or_ge k d with h3 | h3
    · rw [List.getElem?_take_of_lt h3] at hk
      exact h2 k h3 hk
    · rw [List.getElem?_eq_none (by simp; omega)] at hk
      cases hk
  have e : l.take (d + 1) = l.take d ++ [34] := by rw [List.take_succ_eq_append_getElem hd, hb]
  refine ⟨hd, ?_, ?_⟩
  · rw [e, dblL_append, dblL_none _ hno]
    rfl
  · have e2 : l = l.take d ++ 34 :: l.drop (d + 1) := by
      conv => lhs; rw [← List.take_append_drop d l, List.drop_eq_getElem_cons hd, hb]
    have h0 : (l.take d).count 34 = 0 := by
      rw [List.count_eq_zero]
      intro hm
      obtain ⟨k, hk, e3⟩ := List.getElem_of_mem hm
      exact hno k (by rw [List.getElem?_eq_getElem hk, e3])
    conv => rhs; rw [e2, List.count_append, h0, List.count_cons_self]
    omega
/-- The first quote's place. -/
def firstQ (t : ByteArray) : Int := Lib.indexByte t.data.toList 34
def countQ (t : ByteArray) : Nat := t.data.toList.count 34
def dbl (t : ByteArray) : ByteArray := strOf (dblL t.data.toList)
/-- The doubled text up to a place. -/
def dblTo (t : ByteArray) (k : Nat) : List UInt8 := dblL (t.data.toList.take k)
theorem firstQ_calls (t : ByteArray) (w : World) : Calls Tryd.prog 100 #[.string t, .string ⟨#[34]⟩] w fun e w' => e = .returned (.int .i64 (firstQ t)) ∧ w' = w := Tryd.strings_Index_one t 34 w
theorem countQ_calls (t : ByteArray) (w : World) : Calls Tryd.prog 99 #[.string t, .string ⟨#[34]⟩] w fun e w' => e = .returned (.int .i64 (countQ t)) ∧ w' = w := Tryd.strings_Count_one t 34 w
theorem tail_list (t : ByteArray) (k : Nat) : (t.extract k t.size).data.toList = t.data.toList.drop k := by
  rw [ByteArray.data_extract]
  have h : t.data.toList.length = t.size := data_length t
  simp [Array.toList_extract, List.extract_eq_take_drop]
  rw [List.take_of_length_le]
  simp
theorem ba_list (t : ByteArray) (a b : Nat) : (t.extract a b).data.toList = (t.data.toList.drop a).take (b - a) := by
  rw [ByteArray.data_extract]
  simp [Array.toList_extract, List.extract_eq_take_drop]
/-- One round: what is found, what is written. -/
theorem dbl_round {t : ByteArray} {st : Nat} {d : Nat} (h : firstQ (t.extract st t.size) = d) : st + d < t.size ∧ txt (txt (dblTo t st) (t.extract st (st + d))) ⟨#[34, 34]⟩ = dblTo t (st + d + 1) ∧ countQ (t.extract (st + d + 1) t.size) + 1 = countQ (t.extract st t.size) := by
  unfold firstQ at h
  rw [tail_list] at h
  obtain ⟨h1, h2, h3⟩ := split_first h
  have hl : t.data.toList.length = t.size := data_length t
  rw [List.length_drop] at h1
  refine ⟨by omega, ?_, ?_⟩
  · unfold txt dblTo
    rw [ba_list, show st + d - st = d from by omega, List.append_assoc, show st + d + 1 = st + (d + 1) from by omega, List.take_add, dblL_append, h2]
  · unfold countQ
    rw [tail_list, tail_list, show st + d + 1 = st + (d + 1) from by omega, ← List.drop_drop]
    exact h3
theorem dbl_end {t : ByteArray} {st : Nat} (h : countQ (t.extract st t.size) = 0) : strOf (txt (dblTo t st) (t.extract st t.size)) = dbl t := by
  unfold txt dblTo dbl countQ at *
  rw [tail_list] at *
  have := dblL_none _ (count_zero h)
  conv => rhs; rw [← List.take_append_drop st t.data.toList, dblL_append, this]
theorem dbl_same {t : ByteArray} (h : countQ t = 0) : dbl t = t := by
  unfold dbl countQ at *
  rw [dblL_none _ (count_zero h)]
  rfl
theorem dblTo_length (t : ByteArray) (k : Nat) (hk : k ≤ t.size) : (dblTo t k).length ≤ 2 * k := by
  have := dblL_length (t.data.toList.take k)
  unfold dblTo
  rw [List.length_take] at this
  omega
theorem countQ_le (t : ByteArray) : countQ t ≤ t.size := by
  unfold countQ
  have := List.count_le_length (a := (34 : UInt8)) (l := t.data.toList)
  rw [data_length] at this
  exact this
theorem strOf_size (l : List UInt8) : (strOf l).size = l.length := by unfold strOf; simp [ByteArray.size]
theorem dbl_size (t : ByteArray) : (dbl t).size ≤ 2 * t.size := by
  unfold dbl
  have := dblL_length t.data.toList
  rw [data_length] at this
  rw [strOf_size]
  exact this
set_option maxHeartbeats 8000000 in
set_option maxRecDepth 100000 in
theorem replace_calls (t : ByteArray) (ht : t.size ≤ 1099511627776) (w : World) :
    Calls Tryd.prog 92 #[.string t, .string ⟨#[34]⟩, .string ⟨#[34, 34]⟩, .int .i64 (-1)] w fun e w' => e = .returned (.string (dbl t)) ∧ Below w.heap.size w w' := by
  obtain ⟨n, hn⟩ : ∃ n, n = countQ t := ⟨_, rfl⟩
  have hnle := countQ_le t
  rw [← hn] at hnle
  have HN := Aside0.mk hn
  clear hn
  have hne : ((⟨#[34]⟩ : ByteArray) == ⟨#[34, 34]⟩) = false := by decide
  by_cases h0 : n = 0
  · subst h0
    go_enter Tryd.func92, Tryd.ntmps92
    go_wp2_with (go_at_call 99; refine (countQ_calls _ _).mono ?_; rintro e w1 ⟨rfl, rfl⟩; rw [← HN.out])
    go_ret
    exact ⟨by rw [dbl_same HN.out.symm]; rfl, Below.refl _ _⟩
  · have h0b : ((n : Int) == 0) = false := by rw [beq_eq_false_iff_ne]; omega
    go_enter Tryd.func92, Tryd.ntmps92
    go_wp2_with fail
    refine (countQ_calls _ _).mono ?_
    rintro e w1 ⟨rfl, rfl⟩
    rw [← HN.out]
    go_wp2_with fail
    refine (Tryd.Builder_Grow_fresh w1.heap.size w1.heap.size (t.size + n) _ (Nat.le_refl _) (blk_new w1 _) (by simp) (by omega)).mono ?_
    rintro e w2 ⟨rfl, hI, hb⟩
    have HI0 : Aside0 (Lib.IsBuilder 76 5 w1.heap.size w1.heap.size (Lib.byteCells (dblTo t 0)) w2) := ⟨.inr hI⟩
    have HB0 : Aside0 (Below w1.heap.size w1 w2) := ⟨((Below.refl _ _).alloc (Nat.le_refl _) _).trans hb⟩
    clear hI hb
    go_wp2
    go_loopw [11, 53] (fun v11 v53 wr => ∃ (k st : Nat), k ≤ n ∧ st ≤ t.size ∧ v11 = .int .i64 st ∧ v53 = .int .i64 k ∧ Aside0 (countQ (t.extract st t.size) = n - k) ∧ Aside0 (Below w1.heap.size w1 wr) ∧ Aside0 (Lib.IsBuilder 76 5 w1.heap.size w1.heap.size (Lib.byteCells (dblTo t st)) wr)) (fun _ v53 _ => n - (intOf v53).toNat)
    case atStart => exact ⟨0, 0, by omega, by omega, rfl, rfl, ⟨by rw [HN.out]; unfold countQ; rw [tail_list, List.drop_zero, Nat.sub_zero]⟩, HB0, HI0⟩
    case round =>
      clear HI0 HB0
      obtain ⟨k, st, hk, hst, rfl, rfl, HC, HB, HI⟩ := hrel
      by_cases hlt : k < n
      · obtain ⟨d, hd⟩ : ∃ d : Nat, firstQ (t.extract st t.size) = d := by
          unfold firstQ
          refine index_pos ?_
          have := HC.out
          unfold countQ at this
          omega
        obtain ⟨g1, g2, g3⟩ := dbl_round hd
        have G2 := Aside0.mk g2
        have HC2 : Aside0 (countQ (t.extract (st + d + 1) t.size) = n - (k + 1)) := ⟨by have := HC.out; omega⟩
        have HD := Aside0.mk hd
        clear g2 g3 hd
        have hlen := dblTo_length t st hst
        go_wp2_with fail
        refine (firstQ_calls _ _).mono ?_
        rintro e w3 ⟨rfl, rfl⟩
        rw [HD.out]
        have hsl := slice_str t (st : Int) ((st : Int) + d) st (st + d) rfl (by omega) (by omega) (by omega)
        go_wp2_with fail
        refine (Tryd.Builder_WriteString w1.heap.size w1.heap.size (Lib.byteCells (dblTo t st)) (t.extract st (st + d)) _ HI.out (by rw [Lib.byteCells_length, ByteArray.size_extract]; omega) HB.out.size).mono ?_
        rintro e w4 ⟨rfl, hI4, hb4⟩
        rw [cells_join] at hI4
        have HB4 := Aside0.mk (HB.out.trans hb4)
        have HI4 : Aside0 (Lib.IsBuilder 76 5 w1.heap.size w1.heap.size (Lib.byteCells (txt (dblTo t st) (t.extract st (st + d)))) w4) := ⟨.inr hI4⟩
        clear hI4 hb4 hsl
        go_wp2_with fail
        refine (Tryd.Builder_WriteString w1.heap.size w1.heap.size (Lib.byteCells (txt (dblTo t st) (t.extract st (st + d)))) ⟨#[34, 34]⟩ _ HI4.out (by rw [Lib.byteCells_length, txt_length, ByteArray.size_extract]; show _ + 2 ≤ _; omega) HB4.out.size).mono ?_
        rintro e w5 ⟨rfl, hI5, hb5⟩
        rw [cells_join, G2.out] at hI5
        have HB5 := Aside0.mk (HB4.out.trans hb5)
        have HI5 : Aside0 (Lib.IsBuilder 76 5 w1.heap.size w1.heap.size (Lib.byteCells (dblTo t (st + d + 1))) w5) := ⟨.inr hI5⟩
        clear hI5 hb5
        go_wp2
        go_roundw
        case rel => exact ⟨k + 1, st + d + 1, by omega, by omega, by go_num, by go_num, HC2, HB5, HI5⟩
        case measure => simp [intOf]; omega
      · obtain rfl : k = n := by omega
        have HE := Aside0.mk (dbl_end (t := t) (st := st) (by have := HC.out; omega))
        have hlen := dblTo_length t st hst
        go_wp2_with fail
        refine (Tryd.Builder_WriteString w1.heap.size w1.heap.size (Lib.byteCells (dblTo t st)) (t.extract st t.size) _ HI.out (by rw [Lib.byteCells_length, ByteArray.size_extract]; omega) HB.out.size).mono ?_
        rintro e w4 ⟨rfl, hI4, hb4⟩
        rw [cells_join] at hI4
        have HB4 := Aside0.mk (HB.out.trans hb4)
        have HI4 : Aside0 (Lib.IsBuilder 76 5 w1.heap.size w1.heap.size (Lib.byteCells (txt (dblTo t st) (t.extract st t.size))) w4) := ⟨.inr hI4⟩
        clear hI4 hb4
        go_wp2_with fail
        refine (string_calls w1.heap.size w1.heap.size _ _ HI4.out HB4.out.size).mono ?_
        rintro e w5 ⟨rfl, hb5⟩
        rw [HE.out]
        have HB5 := Aside0.mk (HB4.out.trans hb5)
        clear hb5
        go_wp2
        go_ret
        exact ⟨rfl, HB5.out⟩
set_option maxHeartbeats 2000000 in
set_option maxRecDepth 100000 in
theorem replaceAll_calls (t : ByteArray) (ht : t.size ≤ 1099511627776) (w : World) :
    Calls Tryd.prog 85 #[.string t, .string ⟨#[34]⟩, .string ⟨#[34, 34]⟩] w fun e w' => e = .returned (.string (dbl t)) ∧ Below w.heap.size w w' := by
  go_enter Tryd.func85, Tryd.ntmps85
  go_wp2_with fail
  refine (replace_calls t ht _).mono ?_
  rintro e w1 ⟨rfl, hb⟩
  go_wp2
  go_ret
  exact ⟨rfl, hb⟩
end Go.Proofs.YthklnopfgoekeaaDoor.X
