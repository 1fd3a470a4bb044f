/- Texts of one kind, joined by wip/merge.py: HReplace, HStr, HWrite. -/
import Derived.Test.YthklnopfgoekeaaGreatDoorHHash
import Derived.Lib.IndexLaws
import Derived.Test.YthklnopfgoekeaaGreatDoorX1
import Derived.Test.YthklnopfgoekeaaGreatDoorHScan
namespace Go.Proofs.YthklnopfgoekeaaGreatDoor.X
section
open Go.RowKit Go.Proofs.YthklnopfgoekeaaGreatDoorW.PrintWords Go.Proofs.YthklnopfgoekeaaGreatDoorW.PrintLast Go.Proofs.YthklnopfgoekeaaGreatDoorW.PrintMore
set_option linter.unusedVariables false

/-- Each quote twice. -/
def dblL : List UInt8 → List UInt8
  | [] => []
  | b :: l => if b = 34 then 34 :: 34 :: dblL l else b :: dblL l
theorem dblL_append (a b : List UInt8) : dblL (a ++ b) = dblL a ++ dblL b := by
  induction a with
  | nil => rfl
  | cons x a ih =>
    rw [List.cons_append, dblL, dblL]
    split <;> simp [ih]
theorem dblL_none (l : List UInt8) (h : ∀ k : Nat, l[k]? ≠ some 34) : dblL l = l := by
  induction l with
  | nil => rfl
  | cons x l ih =>
    rw [dblL, if_neg (fun hx => h 0 (by simp [hx])), ih (fun k => by have := h (k + 1); simpa using this)]
theorem dblL_length (l : List UInt8) : (dblL l).length ≤ 2 * l.length := by
  induction l with
  | nil => simp [dblL]
  | cons x l ih =>
    rw [dblL]
    split <;> simp <;> omega
theorem count_zero {l : List UInt8} (h : l.count 34 = 0) : ∀ k : Nat, l[k]? ≠ some 34 := by
  intro k hk
  have := List.count_pos_iff.2 (List.mem_of_getElem? hk)
  omega
theorem index_pos {l : List UInt8} (h : 1 ≤ l.count 34) : ∃ d : Nat, Lib.indexByte l 34 = d := by
  have hge := Lib.indexByte_ge l 34
  rcases Int.lt_or_le (Lib.indexByte l 34) 0 with h1 | h1
  · exfalso
    have e : Lib.indexByte l 34 = -1 := by omega
    have := Lib.indexByte_none e
    obtain ⟨k, hk, e2⟩ := List.getElem_of_mem (List.count_pos_iff.1 (show 0 < l.count 34 by omega))
    exact this k (by rw [List.getElem?_eq_getElem hk, e2])
  · exact ⟨(Lib.indexByte l 34).toNat, by omega⟩
theorem split_first {l : List UInt8} {d : Nat} (h : Lib.indexByte l 34 = d) : d < l.length ∧ dblL (l.take (d + 1)) = l.take d ++ [34, 34] ∧ (l.drop (d + 1)).count 34 + 1 = l.count 34 := by
  obtain ⟨h1, h2⟩ := Lib.indexByte_some h
  have hd : d < l.length := by
    obtain ⟨h3, _⟩ := List.getElem?_eq_some_iff.1 h1
    exact h3
  have hb : l[d] = 34 := by rw [List.getElem?_eq_getElem hd] at h1; injection h1
  have hno : ∀ k : Nat, (l.take d)[k]? ≠ some 34 := by
    intro k hk
    rcases Nat.lt_or_ge k d with h3 | h3
    · rw [List.getElem?_take_of_lt h3] at hk
      exact h2 k h3 hk
    · rw [List.getElem?_eq_none (by simp; omega)] at hk
      cases hk
  have e : l.take (d + 1) = l.take d ++ [34] := by rw [List.take_succ_eq_append_getElem hd, hb]
  refine ⟨hd, ?_, ?_⟩
  · rw [e, dblL_append, dblL_none _ hno]
    rfl
  · have e2 : l = l.take d ++ 34 :: l.drop (d + 1) := by
      conv => lhs; rw [← List.take_append_drop d l, List.drop_eq_getElem_cons hd, hb]
    have h0 : (l.take d).count 34 = 0 := by
      rw [List.count_eq_zero]
      intro hm
      obtain ⟨k, hk, e3⟩ := List.getElem_of_mem hm
      exact hno k (by rw [List.getElem?_eq_getElem hk, e3])
    conv => rhs; rw [e2, List.count_append, h0, List.count_cons_self]
    omega
/-- The first quote's place. -/
def firstQ (t : ByteArray) : Int := Lib.indexByte t.data.toList 34
def countQ (t : ByteArray) : Nat := t.data.toList.count 34
def dbl (t : ByteArray) : ByteArray := strOf (dblL t.data.toList)
/-- The doubled text up to a place. -/
def dblTo (t : ByteArray) (k : Nat) : List UInt8 := dblL (t.data.toList.take k)
theorem firstQ_calls (t : ByteArray) (w : World) : Calls Tryz.prog 79 #[.string t, .string ⟨#[34]⟩] w fun e w' => e = .returned (.int .i64 (firstQ t)) ∧ w' = w := Tryz.strings_Index_one t 34 w
theorem countQ_calls (t : ByteArray) (w : World) : Calls Tryz.prog 77 #[.string t, .string ⟨#[34]⟩] w fun e w' => e = .returned (.int .i64 (countQ t)) ∧ w' = w := Tryz.strings_Count_one t 34 w
theorem tail_list (t : ByteArray) (k : Nat) : (t.extract k t.size).data.toList = t.data.toList.drop k := by
  rw [ByteArray.data_extract]
  have h : t.data.toList.length = t.size := data_length t
  simp [Array.toList_extract, List.extract_eq_take_drop]
  rw [List.take_of_length_le]
  simp
theorem ba_list (t : ByteArray) (a b : Nat) : (t.extract a b).data.toList = (t.data.toList.drop a).take (b - a) := by
  rw [ByteArray.data_extract]
  simp [Array.toList_extract, List.extract_eq_take_drop]
/-- One round: what is found, what is written. -/
theorem dbl_round {t : ByteArray} {st : Nat} {d : Nat} (h : firstQ (t.extract st t.size) = d) : st + d < t.size ∧ txt (txt (dblTo t st) (t.extract st (st + d))) ⟨#[34, 34]⟩ = dblTo t (st + d + 1) ∧ countQ (t.extract (st + d + 1) t.size) + 1 = countQ (t.extract st t.size) := by
  unfold firstQ at h
  rw [tail_list] at h
  obtain ⟨h1, h2, h3⟩ := split_first h
  have hl : t.data.toList.length = t.size := data_length t
  rw [List.length_drop] at h1
  refine ⟨by omega, ?_, ?_⟩
  · unfold txt dblTo
    rw [ba_list, show st + d - st = d from by omega, List.append_assoc, show st + d + 1 = st + (d + 1) from by omega, List.take_add, dblL_append, h2]
  · unfold countQ
    rw [tail_list, tail_list, show st + d + 1 = st + (d + 1) from by omega, ← List.drop_drop]
    exact h3
theorem dbl_end {t : ByteArray} {st : Nat} (h : countQ (t.extract st t.size) = 0) : strOf (txt (dblTo t st) (t.extract st t.size)) = dbl t := by
  unfold txt dblTo dbl countQ at *
  rw [tail_list] at *
  have := dblL_none _ (count_zero h)
  conv => rhs; rw [← List.take_append_drop st t.data.toList, dblL_append, this]
theorem dbl_same {t : ByteArray} (h : countQ t = 0) : dbl t = t := by
  unfold dbl countQ at *
  rw [dblL_none _ (count_zero h)]
  rfl
theorem dblTo_length (t : ByteArray) (k : Nat) (hk : k ≤ t.size) : (dblTo t k).length ≤ 2 * k := by
  have := dblL_length (t.data.toList.take k)
  unfold dblTo
  rw [List.length_take] at this
  omega
theorem countQ_le (t : ByteArray) : countQ t ≤ t.size := by
  unfold countQ
  have := List.count_le_length (a := (34 : UInt8)) (l := t.data.toList)
  rw [data_length] at this
  exact this
theorem strOf_size (l : List UInt8) : (strOf l).size = l.length := by unfold strOf; simp [ByteArray.size]
theorem dbl_size (t : ByteArray) : (dbl t).size ≤ 2 * t.size := by
  unfold dbl
  have := dblL_length t.data.toList
  rw [data_length] at this
  rw [strOf_size]
  exact this
set_option maxHeartbeats 8000000 in
set_option maxRecDepth 100000 in
theorem replace_calls (t : ByteArray) (ht : t.size ≤ 1099511627776) (w : World) :
    Calls Tryz.prog 54 #[.string t, .string ⟨#[34]⟩, .string ⟨#[34, 34]⟩, .int .i64 (-1)] w fun e w' => e = .returned (.string (dbl t)) ∧ Below w.heap.size w w' := by
  obtain ⟨n, hn⟩ : ∃ n, n = countQ t := ⟨_, rfl⟩
  have hnle := countQ_le t
  rw [← hn] at hnle
  have HN := Aside0.mk hn
  clear hn
  have hne : ((⟨#[34]⟩ : ByteArray) == ⟨#[34, 34]⟩) = false := by decide
  by_cases h0 : n = 0
  · subst h0
    go_enter Tryz.func54, Tryz.ntmps54
    go_wp2_with (go_at_call 77; refine (countQ_calls _ _).mono ?_; rintro e w1 ⟨rfl, rfl⟩; rw [← HN.out])
    go_ret
    exact ⟨by rw [dbl_same HN.out.symm]; rfl, Below.refl _ _⟩
  · have h0b : ((n : Int) == 0) = false := by rw [beq_eq_false_iff_ne]; omega
    go_enter Tryz.func54, Tryz.ntmps54
    go_wp2_with fail
    refine (countQ_calls _ _).mono ?_
    rintro e w1 ⟨rfl, rfl⟩
    rw [← HN.out]
    go_wp2_with fail
    refine (Tryz.Builder_Grow_fresh w1.heap.size w1.heap.size (t.size + n) _ (Nat.le_refl _) (blk_new w1 _) (by simp) (by omega)).mono ?_
    rintro e w2 ⟨rfl, hI, hb⟩
    have HI0 : Aside0 (Lib.IsBuilder 78 5 w1.heap.size w1.heap.size (Lib.byteCells (dblTo t 0)) w2) := ⟨.inr hI⟩
    have HB0 : Aside0 (Below w1.heap.size w1 w2) := ⟨((Below.refl _ _).alloc (Nat.le_refl _) _).trans hb⟩
    clear hI hb
    go_wp2
    go_loopw [11, 53] (fun v11 v53 wr => ∃ (k st : Nat), k ≤ n ∧ st ≤ t.size ∧ v11 = .int .i64 st ∧ v53 = .int .i64 k ∧ Aside0 (countQ (t.extract st t.size) = n - k) ∧ Aside0 (Below w1.heap.size w1 wr) ∧ Aside0 (Lib.IsBuilder 78 5 w1.heap.size w1.heap.size (Lib.byteCells (dblTo t st)) wr)) (fun _ v53 _ => n - (intOf v53).toNat)
    case atStart => exact ⟨0, 0, by omega, by omega, rfl, rfl, ⟨by rw [HN.out]; unfold countQ; rw [tail_list, List.drop_zero, Nat.sub_zero]⟩, HB0, HI0⟩
    case round =>
      clear HI0 HB0
      obtain ⟨k, st, hk, hst, rfl, rfl, HC, HB, HI⟩ := hrel
      by_cases hlt : k < n
      · obtain ⟨d, hd⟩ : ∃ d : Nat, firstQ (t.extract st t.size) = d := by
          unfold firstQ
          refine index_pos ?_
          have := HC.out
          unfold countQ at this
          omega
        obtain ⟨g1, g2, g3⟩ := dbl_round hd
        have G2 := Aside0.mk g2
        have HC2 : Aside0 (countQ (t.extract (st + d + 1) t.size) = n - (k + 1)) := ⟨by have := HC.out; omega⟩
        have HD := Aside0.mk hd
        clear g2 g3 hd
        have hlen := dblTo_length t st hst
        go_wp2_with fail
        refine (firstQ_calls _ _).mono ?_
        rintro e w3 ⟨rfl, rfl⟩
        rw [HD.out]
        have hsl := slice_str t (st : Int) ((st : Int) + d) st (st + d) rfl (by omega) (by omega) (by omega)
        go_wp2_with fail
        refine (Tryz.Builder_WriteString w1.heap.size w1.heap.size (Lib.byteCells (dblTo t st)) (t.extract st (st + d)) _ HI.out (by rw [Lib.byteCells_length, ByteArray.size_extract]; omega) HB.out.size).mono ?_
        rintro e w4 ⟨rfl, hI4, hb4⟩
        rw [cells_join] at hI4
        have HB4 := Aside0.mk (HB.out.trans hb4)
        have HI4 : Aside0 (Lib.IsBuilder 78 5 w1.heap.size w1.heap.size (Lib.byteCells (txt (dblTo t st) (t.extract st (st + d)))) w4) := ⟨.inr hI4⟩
        clear hI4 hb4 hsl
        go_wp2_with fail
        refine (Tryz.Builder_WriteString w1.heap.size w1.heap.size (Lib.byteCells (txt (dblTo t st) (t.extract st (st + d)))) ⟨#[34, 34]⟩ _ HI4.out (by rw [Lib.byteCells_length, txt_length, ByteArray.size_extract]; show _ + 2 ≤ _; omega) HB4.out.size).mono ?_
        rintro e w5 ⟨rfl, hI5, hb5⟩
        rw [cells_join, G2.out] at hI5
        have HB5 := Aside0.mk (HB4.out.trans hb5)
        have HI5 : Aside0 (Lib.IsBuilder 78 5 w1.heap.size w1.heap.size (Lib.byteCells (dblTo t (st + d + 1))) w5) := ⟨.inr hI5⟩
        clear hI5 hb5
        go_wp2
        go_roundw
        case rel => exact ⟨k + 1, st + d + 1, by omega, by omega, by go_num, by go_num, HC2, HB5, HI5⟩
        case measure => simp [intOf]; omega
      · obtain rfl : k = n := by omega
        have HE := Aside0.mk (dbl_end (t := t) (st := st) (by have := HC.out; omega))
        have hlen := dblTo_length t st hst
        go_wp2_with fail
        refine (Tryz.Builder_WriteString w1.heap.size w1.heap.size (Lib.byteCells (dblTo t st)) (t.extract st t.size) _ HI.out (by rw [Lib.byteCells_length, ByteArray.size_extract]; omega) HB.out.size).mono ?_
        rintro e w4 ⟨rfl, hI4, hb4⟩
        rw [cells_join] at hI4
        have HB4 := Aside0.mk (HB.out.trans hb4)
        have HI4 : Aside0 (Lib.IsBuilder 78 5 w1.heap.size w1.heap.size (Lib.byteCells (txt (dblTo t st) (t.extract st t.size))) w4) := ⟨.inr hI4⟩
        clear hI4 hb4
        go_wp2_with fail
        refine (string_calls w1.heap.size w1.heap.size _ _ HI4.out HB4.out.size).mono ?_
        rintro e w5 ⟨rfl, hb5⟩
        rw [HE.out]
        have HB5 := Aside0.mk (HB4.out.trans hb5)
        clear hb5
        go_wp2
        go_ret
        exact ⟨rfl, HB5.out⟩
set_option maxHeartbeats 2000000 in
set_option maxRecDepth 100000 in
theorem replaceAll_calls (t : ByteArray) (ht : t.size ≤ 1099511627776) (w : World) :
    Calls Tryz.prog 37 #[.string t, .string ⟨#[34]⟩, .string ⟨#[34, 34]⟩] w fun e w' => e = .returned (.string (dbl t)) ∧ Below w.heap.size w w' := by
  go_enter Tryz.func37, Tryz.ntmps37
  go_wp2_with fail
  refine (replace_calls t ht _).mono ?_
  rintro e w1 ⟨rfl, hb⟩
  go_wp2
  go_ret
  exact ⟨rfl, hb⟩
end
section
open Go.RowKit Go.Proofs.YthklnopfgoekeaaGreatDoorW.PrintWords Go.Proofs.YthklnopfgoekeaaGreatDoorW.PrintLast Go.Proofs.YthklnopfgoekeaaGreatDoorW.PrintMore
set_option linter.unusedVariables false

/-- A text between quotes. -/
def quoted (t : ByteArray) : ByteArray := (⟨#[34]⟩ : ByteArray) ++ dbl t ++ (⟨#[34]⟩ : ByteArray)
def strR (t : ByteArray) : ByteArray × Int := if runN printB t 0 = t.size then (quoted t, 0) else (⟨#[]⟩, 60)
theorem str_ok {t : ByteArray} (h : ∀ j, j < t.size → printB (bt t ((0 : Nat) + (j : Nat))) = true) : strR t = (quoted t, 0) := by
  unfold strR
  rw [if_pos (runN_eq (by omega) (fun j hj => h j hj) (.inl (by omega)))]
theorem str_bad {t : ByteArray} {k : Nat} (hk : k < t.size) (h : ∀ j, j < k → printB (bt t (((0 : Nat) : Int) + (j : Nat))) = true) (hb : printB (bt t k) = false) : strR t = (⟨#[]⟩, 60) := by
  unfold strR
  have e : runN printB t 0 = k := runN_eq (by omega) h (.inr (by simpa using hb))
  rw [e, if_neg (by omega)]
set_option maxHeartbeats 2000000 in
set_option maxRecDepth 100000 in
theorem string_tells (t : ByteArray) (ht : t.size ≤ 1099511627776) (w : World) :
    Calls Tryz.prog 17 #[.string t] w fun e w' => e = .returned (.tuple #[.string (strR t).1, .int .i64 (strR t).2]) ∧ Below w.heap.size w w' := by
  have hds := dbl_size t
  go_enter Tryz.func17, Tryz.ntmps17
  go_wp2
  go_loopw [7] (fun i wr => ∃ k : Nat, k ≤ t.size ∧ i = .int .i64 k ∧ Aside0 (∀ j, j < k → printB (bt t (((0 : Nat) : Int) + (j : Nat))) = true) ∧ Aside0 (Below w.heap.size w wr)) (fun i _ => t.size - (intOf i).toNat)
  case atStart => exact ⟨0, by omega, rfl, ⟨fun j hj => by omega⟩, ⟨Below.refl _ _⟩⟩
  case round =>
    obtain ⟨k, hk, rfl, HP, HB⟩ := hrel
    by_cases hlt : k < t.size
    · have hix := index_str t (k : Int) k rfl hlt
      cases hp : printB (bt t k) with
      | true =>
        have HY := Aside0.mk hp
        clear hp
        go_wp2_with fail
        refine (lexis_printable.calls 3 (bt t k) true _ (by rw [print_f, HY.out])).mono ?_
        rintro e w1 ⟨rfl, hb1⟩
        have HB1 := Aside0.mk (below_then HB.out HB.out.size hb1)
        clear hb1
        go_wp2
        go_roundw
        case rel => exact ⟨k + 1, by omega, by go_num, ⟨fun j hj => by
          rcases Nat.lt_or_ge j k with h1 | h1
          · exact HP.out j h1
          · obtain rfl : j = k := by omega
            simpa using HY.out⟩, HB1⟩
        case measure => simp [intOf]; omega
      | false =>
        have HE := Aside0.mk (str_bad hlt HP.out hp)
        have HY := Aside0.mk hp
        clear hp
        go_wp2_with fail
        refine (lexis_printable.calls 3 (bt t k) false _ (by rw [print_f, HY.out])).mono ?_
        rintro e w1 ⟨rfl, hb1⟩
        have HB1 := Aside0.mk (below_then HB.out HB.out.size hb1)
        clear hb1
        go_wp2
        go_ret2
        rw [HE.out]
        exact ⟨rfl, HB1.out⟩
    · obtain rfl : k = t.size := by omega
      have HE := Aside0.mk (str_ok HP.out)
      go_wp2_with fail
      refine (replaceAll_calls t ht _).mono ?_
      rintro e w1 ⟨rfl, hb1⟩
      have HB1 := Aside0.mk (below_then HB.out HB.out.size hb1)
      clear hb1
      obtain ⟨dt, hdt⟩ : ∃ dt, dt = dbl t := ⟨_, rfl⟩
      rw [← hdt] at hds ⊢
      have HDT := Aside0.mk hdt
      clear hdt
      go_wp2
      go_ret2
      rw [HE.out]
      unfold quoted
      rw [← HDT.out]
      exact ⟨rfl, HB1.out⟩
def lexis_String.f (a0 : ByteArray) : Option (ByteArray × Int) := if a0.size ≤ 1099511627776 then some (strR a0) else none
theorem lexis_String.calls (a0 : ByteArray) (r1 : ByteArray) (r2 : Int) (w : World) (h : lexis_String.f a0 = some (r1, r2)) :
    Calls Tryz.prog 17 #[.string a0] w fun e w' => e = .returned (.tuple #[.string r1, .int .i64 r2]) ∧ Below w.heap.size w w' := by
  unfold lexis_String.f at h
  split at h
  · rename_i hs
    injection h with h
    have := string_tells a0 hs w
    rw [h] at this
    exact this
  · cases h
/-- A token as it would be written. -/
def textR (k : Int) (tx : ByteArray) (q : Bool) : ByteArray :=
  if k = 5 then (⟨#[35, 120]⟩ : ByteArray) ++ tx else if k = 6 then (⟨#[35, 98]⟩ : ByteArray) ++ tx else if k = 9 then (⟨#[58]⟩ : ByteArray) ++ tx
  else if k = 7 then (strR tx).1 else if k = 8 ∧ q = true then (⟨#[124]⟩ : ByteArray) ++ tx ++ (⟨#[124]⟩ : ByteArray) else tx
theorem quoted_size (t : ByteArray) : (quoted t).size ≤ 2 * t.size + 2 := by
  unfold quoted
  rw [ByteArray.size_append, ByteArray.size_append]
  have := dbl_size t
  show 1 + _ + 1 ≤ _
  omega
theorem strR_size (t : ByteArray) : (strR t).1.size ≤ 2 * t.size + 2 := by
  unfold strR
  split
  · exact quoted_size t
  · show 0 ≤ _; omega
set_option maxHeartbeats 4000000 in
set_option maxRecDepth 100000 in
theorem text_tells (k : Int) (tx : ByteArray) (q : Bool) (l c : Int) (ht : tx.size ≤ 1099511627776) (w : World) :
    Calls Tryz.prog 33 #[.agg #[.int .i64 k, .string tx, .bool q, .int .i64 l, .int .i64 c]] w fun e w' => e = .returned (.string (textR k tx q)) ∧ Below w.heap.size w w' := by
  have hW : ∀ o : Obj, Below w.heap.size w (w.alloc o) := fun o => (Below.refl _ _).alloc (Nat.le_refl _) _
  have HW := Aside0.mk hW
  clear hW
  cases h5 : (k == 5) with
  | true =>
    have HE : Aside0 (textR k tx q = (⟨#[35, 120]⟩ : ByteArray) ++ tx) := ⟨by unfold textR; rw [if_pos (by simpa using h5)]⟩
    go_enter Tryz.func33, Tryz.ntmps33
    go_wp2
    go_ret
    rw [HE.out]
    exact ⟨rfl, HW.out _⟩
  | false =>
    cases h6 : (k == 6) with
    | true =>
      have HE : Aside0 (textR k tx q = (⟨#[35, 98]⟩ : ByteArray) ++ tx) := ⟨by unfold textR; rw [if_neg (by simpa using h5), if_pos (by simpa using h6)]⟩
      go_enter Tryz.func33, Tryz.ntmps33
      go_wp2
      go_ret
      rw [HE.out]
      exact ⟨rfl, HW.out _⟩
    | false =>
      cases h9 : (k == 9) with
      | true =>
        have HE : Aside0 (textR k tx q = (⟨#[58]⟩ : ByteArray) ++ tx) := ⟨by unfold textR; rw [if_neg (by simpa using h5), if_neg (by simpa using h6), if_pos (by simpa using h9)]⟩
        go_enter Tryz.func33, Tryz.ntmps33
        go_wp2
        go_ret
        rw [HE.out]
        exact ⟨rfl, HW.out _⟩
      | false =>
        cases h7 : (k == 7) with
        | true =>
          have HE : Aside0 (textR k tx q = (strR tx).1) := ⟨by unfold textR; rw [if_neg (by simpa using h5), if_neg (by simpa using h6), if_neg (by simpa using h9), if_pos (by simpa using h7)]⟩
          go_enter Tryz.func33, Tryz.ntmps33
          go_wp2_with (go_at_call 17; refine (string_tells tx ht _).mono ?_; rintro e w1 ⟨rfl, hb1⟩; have HB1 := Aside0.mk (below_then (HW.out _) (by simp) hb1); clear hb1)
          go_ret
          rw [HE.out]
          exact ⟨rfl, HB1.out⟩
        | false =>
          cases h8 : (k == 8) with
          | true =>
            cases q with
            | true =>
              have HE : Aside0 (textR k tx true = (⟨#[124]⟩ : ByteArray) ++ tx ++ (⟨#[124]⟩ : ByteArray)) := ⟨by unfold textR; rw [if_neg (by simpa using h5), if_neg (by simpa using h6), if_neg (by simpa using h9), if_neg (by simpa using h7), if_pos ⟨by simpa using h8, rfl⟩]⟩
              go_enter Tryz.func33, Tryz.ntmps33
              go_wp2
              go_ret
              rw [HE.out]
              exact ⟨rfl, HW.out _⟩
            | false =>
              have HE : Aside0 (textR k tx false = tx) := ⟨by unfold textR; rw [if_neg (by simpa using h5), if_neg (by simpa using h6), if_neg (by simpa using h9), if_neg (by simpa using h7), if_neg (fun h => by cases h.2)]⟩
              go_enter Tryz.func33, Tryz.ntmps33
              go_wp2
              go_ret
              rw [HE.out]
              exact ⟨rfl, HW.out _⟩
          | false =>
            have HE : Aside0 (textR k tx q = tx) := ⟨by unfold textR; rw [if_neg (by simpa using h5), if_neg (by simpa using h6), if_neg (by simpa using h9), if_neg (by simpa using h7), if_neg (fun h => by simp [h.1] at h8)]⟩
            go_enter Tryz.func33, Tryz.ntmps33
            go_wp2
            go_ret
            rw [HE.out]
            exact ⟨rfl, HW.out _⟩
end
section
open Go.RowKit Go.Proofs.YthklnopfgoekeaaGreatDoorW.PrintWords Go.Proofs.YthklnopfgoekeaaGreatDoorW.PrintLast Go.Proofs.YthklnopfgoekeaaGreatDoorW.PrintMore
set_option linter.unusedVariables false
attribute [local go_sem high] eqA37

def lexis_text.f (a0_0 : Int) (a0_1 : ByteArray) (a0_2 : Bool) (a0_3 : Int) (a0_4 : Int) : Option (ByteArray) := if a0_1.size ≤ 1099511627776 then some (textR a0_0 a0_1 a0_2) else none
theorem lexis_text.calls (a0_0 : Int) (a0_1 : ByteArray) (a0_2 : Bool) (a0_3 : Int) (a0_4 : Int) (r : ByteArray) (w : World) (h : lexis_text.f a0_0 a0_1 a0_2 a0_3 a0_4 = some r) :
    Calls Tryz.prog 33 #[.agg #[.int .i64 a0_0, .string a0_1, .bool a0_2, .int .i64 a0_3, .int .i64 a0_4]] w fun e w' => e = .returned (.string r) ∧ Below w.heap.size w w' := by
  unfold lexis_text.f at h
  split at h
  · rename_i hs
    injection h with h
    subst h
    exact text_tells a0_0 a0_1 a0_2 a0_3 a0_4 hs w
  · cases h
/-- Is it the token alone, at the head? -/
def aloneB (k : Int) (tx : ByteArray) (q : Bool) (r : List S37 × Int × Int × Int) : Bool := match r with
  | ([t], _, _, e) => e == 0 && (t.f0 == k && (t.f1.toList == tx.toList && (t.f2 == q && (t.f3 == 1 && t.f4 == 1))))
  | _ => false
def writeR (k : Int) (tx : ByteArray) (q : Bool) : ByteArray × Int :=
  if (textR k tx q).size ≤ 1048576 ∧ aloneB k tx q (scanAll (textR k tx q)) = true then (textR k tx q, 0) else (⟨#[]⟩, 73)
set_option maxHeartbeats 4000000 in
set_option maxRecDepth 100000 in
theorem write_tells (k : Int) (tx : ByteArray) (q : Bool) (l c : Int) (ht : tx.size ≤ 1099511627776) (w : World) :
    Calls Tryz.prog 15 #[.agg #[.int .i64 k, .string tx, .bool q, .int .i64 l, .int .i64 c]] w fun e w' => e = .returned (.tuple #[.string (writeR k tx q).1, .int .i64 (writeR k tx q).2]) ∧ Below w.heap.size w w' := by
  obtain ⟨tt, htt⟩ : ∃ tt, tt = textR k tx q := ⟨_, rfl⟩
  have HTT := Aside0.mk htt
  by_cases hlen : tt.size ≤ 1048576
  · have hg : decide (1048576 < (tt.size : Int)) = false := decide_eq_false (by omega)
    have hg2 : decide (1048576 < tt.size) = false := decide_eq_false (by omega)
    obtain ⟨r1, r2, r3, r4, hsc⟩ : ∃ r1 r2 r3 r4, scanAll tt = (r1, r2, r3, r4) := ⟨_, _, _, _, rfl⟩
    have HSC := Aside0.mk hsc
    clear htt hsc
    go_enter Tryz.func15, Tryz.ntmps15
    go_wp2_with fail
    refine (text_tells k tx q l c ht _).mono ?_
    rintro e w1 ⟨rfl, hb1⟩
    rw [← HTT.out]
    have HB1 : Aside0 (Below w.heap.size w w1) := ⟨below_then ((Below.refl _ _).alloc (Nat.le_refl _) _) (by simp) hb1⟩
    have HK1 := Aside0.mk (blk_below (blk_new w (.cells #[.int .i64 k, .string tx, .bool q, .int .i64 l, .int .i64 c] 37)) hb1)
    clear hb1
    go_wp2_with fail
    refine (lexis_Scan.calls tt r1 r2 r3 r4 _ (by unfold lexis_Scan.f; rw [HSC.out])).mono ?_
    rintro e w2 ⟨v0, rfl, hR, hb2⟩
    have HB2 : Aside0 (Below w.heap.size w w2) := ⟨below_then HB1.out HB1.out.size hb2⟩
    have hk2 := blk_below HK1.out hb2
    have hlb := blk_lt HK1.out
    have hb3 : Below w.heap.size w ((w2.setCell ⟨w.heap.size, 3, none⟩ (.int .i64 1)).setCell ⟨w.heap.size, 4, none⟩ (.int .i64 1)) := (HB2.out.setCell (Nat.le_refl _) _).setCell (Nat.le_refl _) _
    have hk3 : ((w2.setCell ⟨w.heap.size, 3, none⟩ (.int .i64 1)).setCell ⟨w.heap.size, 4, none⟩ (.int .i64 1)).heap[w.heap.size]? = some (.cells #[.int .i64 k, .string tx, .bool q, .int .i64 1, .int .i64 1] 37 (0, 0)) := blk_set (blk_set hk2 3 _) 4 _
    have hR3 : Kd.R k37 37 ((w2.setCell ⟨w.heap.size, 3, none⟩ (.int .i64 1)).setCell ⟨w.heap.size, 4, none⟩ (.int .i64 1)) w1.heap.size (fun k => True ∧ w1.heap.size ≤ k ∧ k < w2.heap.size ∧ ∃ q, q ∈ 37 :: k37.E ∧ ∃ cells, w2.heap[k]? = some (.cells cells q (0, 0))) v0 r1 :=
      Kd.R_far (Kd.R_far (Kd.R_bound hR) (fun k h => by have := h.2.1; show k ≠ w.heap.size; omega) _) (fun k h => by have := h.2.1; show k ≠ w.heap.size; omega) _
    obtain ⟨A, cp, rfl, hcp, hC⟩ := Kd.R_reads hR3
    obtain ⟨d0, d1, d2, d3, d4⟩ := box37 hk3
    have hf3 := blk_frozen hk2 3
    have hf4 := blk_frozen hk2 4
    obtain ⟨c0, c1, c2, c3, c4⟩ := box37 hk2
    have HA : Aside0 (∀ ad, A = some ad → ∃ g, ad = ⟨g, 0, none⟩) := ⟨fun ad h => by subst h; exact Kd.R_head hR3⟩
    have HC3 := Aside0.mk hC
    have HB3 := Aside0.mk hb3
    clear hR hb2 hk2 hk3 hC hR3 hb3
    obtain ⟨w3, hw3⟩ : ∃ w3, w3 = ((w2.setCell ⟨w.heap.size, 3, none⟩ (.int .i64 1)).setCell ⟨w.heap.size, 4, none⟩ (.int .i64 1)) := ⟨_, rfl⟩
    rw [← hw3] at d0 d1 d2 d3 d4 HC3 HB3
    have hf4' : (w2.setCell ⟨w.heap.size, 3, none⟩ (.int .i64 1)).frozen? ⟨w.heap.size, 4, none⟩ = false := by simpa using hf4
    go_wp2_with fail
    rw [← hw3]
    clear hw3 hf4' hf4 hf3 c0 c1 c2 c3 c4
    have HN : Aside0 (aloneB k tx q (r1, r2, r3, r4) = false → writeR k tx q = (⟨#[]⟩, 73)) := ⟨fun h => by
      unfold writeR; rw [← HTT.out, HSC.out, if_neg]; rintro ⟨_, h2⟩; rw [h] at h2; cases h2⟩
    have HY : Aside0 (aloneB k tx q (r1, r2, r3, r4) = true → writeR k tx q = (tt, 0)) := ⟨fun h => by
      unfold writeR; rw [← HTT.out, HSC.out, if_pos ⟨hlen, h⟩]⟩
    cases he : (r4 != 0) with
    | true =>
      have HE : Aside0 (writeR k tx q = (⟨#[]⟩, 73)) := ⟨HN.out (by
        unfold aloneB; split
        · rename_i h1; injection h1 with _ h1; injection h1 with _ h1; injection h1 with _ h1; subst h1; simp at he ⊢; exact fun h => absurd h he
        · rfl)⟩
      go_quiet (fail)
      go_wp2
      go_ret2
      rw [HE.out]
      exact ⟨rfl, pw_below_drewN HB3.out _⟩
    | false =>
      by_cases hl : r1.length = 1
      · obtain ⟨t, rfl⟩ : ∃ t, r1 = [t] := by
          match r1, hl with
          | [t], _ => exact ⟨t, rfl⟩
        have hlb : ((([t] : List S37).length : Nat) : Int) = 1 := rfl
        obtain ⟨ad, rfl, e0, e1, e2, e3, e4⟩ := at_T37 HC3.out 0 (by omega) (by simp)
        obtain ⟨g, rfl⟩ := HA.out _ rfl
        have hrd : rd_T37 [t] 0 = t := rfl
        rw [hrd] at e0 e1 e2 e3 e4
        have e0 : w3.cell? ⟨g, 0, none⟩ = some (.int .i64 t.f0) := e0
        have e1 : w3.cell? ⟨g, 1, none⟩ = some (.string t.f1) := e1
        have e2 : w3.cell? ⟨g, 2, none⟩ = some (.bool t.f2) := e2
        have e3 : w3.cell? ⟨g, 3, none⟩ = some (.int .i64 t.f3) := e3
        have e4 : w3.cell? ⟨g, 4, none⟩ = some (.int .i64 t.f4) := e4
        cases hq : (t.f0 == k && (t.f1.toList == tx.toList && (t.f2 == q && (t.f3 == 1 && t.f4 == 1)))) with
        | true =>
          have HE : Aside0 (writeR k tx q = (tt, 0)) := ⟨HY.out (by
            show (r4 == 0 && _) = true
            rw [hq]; simpa using he)⟩
          go_quiet (fail)
          go_wp2
          go_ret2
          rw [HE.out]
          exact ⟨rfl, pw_below_drewN HB3.out _⟩
        | false =>
          have HE : Aside0 (writeR k tx q = (⟨#[]⟩, 73)) := ⟨HN.out (by
            show (r4 == 0 && _) = false
            rw [hq]; simp)⟩
          go_quiet (fail)
          go_wp2
          go_ret2
          rw [HE.out]
          exact ⟨rfl, pw_below_drewN HB3.out _⟩
      · have hlb : ((r1.length : Int) != 1) = true := by simp; omega
        have HE : Aside0 (writeR k tx q = (⟨#[]⟩, 73)) := ⟨HN.out (by
          unfold aloneB; split
          · rename_i h1; injection h1 with h1 _; subst h1; exact absurd rfl hl
          · rfl)⟩
        go_quiet (fail)
        go_wp2
        go_ret2
        rw [HE.out]
        exact ⟨rfl, pw_below_drewN HB3.out _⟩
  · have hg : decide (1048576 < (tt.size : Int)) = true := decide_eq_true (by omega)
    have hg2 : decide (1048576 < tt.size) = true := decide_eq_true (by omega)
    have HE : Aside0 (writeR k tx q = (⟨#[]⟩, 73)) := ⟨by unfold writeR; rw [← htt, if_neg (fun h => hlen h.1)]⟩
    clear htt
    go_enter Tryz.func15, Tryz.ntmps15
    go_wp2_with fail
    refine (text_tells k tx q l c ht _).mono ?_
    rintro e w1 ⟨rfl, hb1⟩
    rw [← HTT.out]
    have HB1 : Aside0 (Below w.heap.size w w1) := ⟨below_then ((Below.refl _ _).alloc (Nat.le_refl _) _) (by simp) hb1⟩
    clear hb1
    go_wp2
    go_ret2
    rw [HE.out]
    exact ⟨rfl, HB1.out⟩
def lexis_Write.f (a0_0 : Int) (a0_1 : ByteArray) (a0_2 : Bool) (a0_3 : Int) (a0_4 : Int) : Option (ByteArray × Int) := if a0_1.size ≤ 1099511627776 then some (writeR a0_0 a0_1 a0_2) else none
theorem lexis_Write.calls (a0_0 : Int) (a0_1 : ByteArray) (a0_2 : Bool) (a0_3 : Int) (a0_4 : Int) (r1 : ByteArray) (r2 : Int) (w : World) (h : lexis_Write.f a0_0 a0_1 a0_2 a0_3 a0_4 = some (r1, r2)) :
    Calls Tryz.prog 15 #[.agg #[.int .i64 a0_0, .string a0_1, .bool a0_2, .int .i64 a0_3, .int .i64 a0_4]] w fun e w' => e = .returned (.tuple #[.string r1, .int .i64 r2]) ∧ Below w.heap.size w w' := by
  unfold lexis_Write.f at h
  split at h
  · rename_i hs
    injection h with h
    have := write_tells a0_0 a0_1 a0_2 a0_3 a0_4 hs w
    rw [h] at this
    exact this
  · cases h
end
end Go.Proofs.YthklnopfgoekeaaGreatDoor.X
