/- LexisBlanks: blanks and comments behind each token change nothing but places: the pure part. -/
import Derived.Test.YthklnopfgoekeaaDoorPJoin
import Derived.Test.YthklnopfgoekeaaDoorHBlanks
namespace Go.Proofs.YthklnopfgoekeaaDoor.X
open Go.RowKit Go.Proofs.YthklnopfgoekeaaDoorW.PrintWords Go.Proofs.YthklnopfgoekeaaDoorW.PrintLast Go.Proofs.YthklnopfgoekeaaDoorW.PrintMore
set_option linter.unusedVariables false
abbrev Lay := List (Int × List UInt8 × Bool)
/-- A line's front: with whatever is laid out behind it, it is laid out as these tokens ahead. -/
def Front (acc : ByteArray) (us : Lay) : Prop := ∀ (rest : List UInt8) (ts : Lay), Layout rest ts → Layout (acc.data.toList ++ rest) (us ++ ts)
theorem app_list (a b : ByteArray) : (a ++ b).data.toList = a.data.toList ++ b.data.toList := by
  rw [ByteArray.data_append, Array.toList_append]
theorem front_tok {acc : ByteArray} {us : Lay} (h : Front acc us) {t : S38} (ht : writes t) : Front (((acc ++ (⟨#[32, 9]⟩ : ByteArray)) ++ (writeR t.f0 t.f1 t.f2).1) ++ (⟨#[13, 10]⟩ : ByteArray)) (us ++ [tokL t]) := by
  intro rest ts hr
  obtain ⟨e1, e2, e3⟩ := writes_lex ht
  rw [app_list, app_list, app_list, e3, strOf_list, List.append_assoc, List.append_assoc, List.append_assoc, List.append_assoc]
  refine h _ (tokL t :: ts) ?_
  show Layout (32 :: 9 :: (textL t.f0 t.f1.data.toList t.f2 ++ 13 :: 10 :: rest)) _
  exact .blank 32 _ _ (by decide) (.blank 9 _ _ (by decide) (.tok _ _ _ _ _ _ e1 (fol_head (by decide)) (.blank 13 _ _ (by decide) (.blank 10 _ _ (by decide) hr))))
theorem front_word {acc : ByteArray} {us : Lay} (h : Front acc us) {w : ByteArray} (hw : allP notNlB w.data.toList = true) : Front (((acc ++ (⟨#[59]⟩ : ByteArray)) ++ w) ++ (⟨#[10]⟩ : ByteArray)) us := by
  intro rest ts hr
  rw [app_list, app_list, app_list, List.append_assoc, List.append_assoc, List.append_assoc]
  refine h _ ts ?_
  show Layout (59 :: (w.data.toList ++ 10 :: rest)) _
  exact .comment _ _ _ hw (.inr rfl) (.blank 10 _ _ (by decide) hr)
theorem all_of_bytes {w : ByteArray} (h : ∀ p, p < w.size → bt w ((p : Nat) : Int) ≠ 10) : allP notNlB w.data.toList = true := by
  rw [allP, List.all_eq_true]
  intro c hc
  obtain ⟨p, hp, rfl⟩ := List.getElem_of_mem hc
  have hp2 : p < w.size := hp
  have h1 := h p hp2
  rw [bt_from] at h1
  unfold from_ at h1
  rw [List.drop_eq_getElem_cons hp] at h1
  have h2 : by8 (w.data.toList[p]) ≠ 10 := h1
  simpa [notNlB] using h2
theorem inner_run (l : List S38) (ws : List ByteArray) (s acc : ByteArray) (i : Nat) (w : ByteArray) (hi : i < ws.length) (hw : rdOf ByteArray.empty ws (i : Int) = w) (hz : w.size ≤ 1048576) (ha : acc.size ≤ 1125899906842624) (hi2 : i ≤ 1048576)
    (hgo : (∀ p, p < w.size → bt w ((p : Nat) : Int) ≠ 10) → ∃ K, tribunallaw06_LexisBlanks.l0 K l ws s 0 (((acc ++ (⟨#[59]⟩ : ByteArray)) ++ w) ++ (⟨#[10]⟩ : ByteArray)) ((i + 1 : Nat) : Int) = some true) :
    ∀ (n j : Nat), j + n = w.size → (∀ p, p < j → bt w ((p : Nat) : Int) ≠ 10) → ∃ K, tribunallaw06_LexisBlanks.l1 K l ws s 0 acc i j = some true
  | 0, j, hj, hb => by
    obtain ⟨K, hK⟩ := hgo (fun p hp => hb p (by omega))
    have e : wrap64 ((i : Int) + 1) = ((i + 1 : Nat) : Int) := by unfold wrap64; omega
    have s1 : (acc ++ (⟨#[59]⟩ : ByteArray)).size = acc.size + 1 := ByteArray.size_append ..
    have s2 : ((acc ++ (⟨#[59]⟩ : ByteArray)) ++ w).size = acc.size + 1 + w.size := by rw [ByteArray.size_append, s1]
    refine ⟨K + 1, ?_⟩
    rw [tribunallaw06_LexisBlanks.l1, if_pos (by omega), if_pos (by omega), hw, if_neg (by omega), if_pos (by omega), if_pos (by omega), if_pos (by omega), e]
    exact hK
  | n + 1, j, hj, hb => by
    by_cases h10 : bt w ((j : Nat) : Int) = 10
    · refine ⟨1, ?_⟩
      rw [tribunallaw06_LexisBlanks.l1, if_pos (by omega), if_pos (by omega), hw, if_pos (by omega), if_pos (by omega), if_pos h10]
    · obtain ⟨K, hK⟩ := inner_run l ws s acc i w hi hw hz ha hi2 hgo n (j + 1) (by omega) (fun p hp => by
        by_cases hpj : p < j
        · exact hb p hpj
        · have e : p = j := by omega
          rw [e]; exact h10)
      have e : wrap64 ((j : Int) + 1) = ((j + 1 : Nat) : Int) := by unfold wrap64; omega
      refine ⟨K + 1, ?_⟩
      rw [tribunallaw06_LexisBlanks.l1, if_pos (by omega), if_pos (by omega), hw, if_pos (by omega), if_pos (by omega), if_neg h10, e]
      exact hK
theorem rd_str {ws : List ByteArray} {i : Nat} (h : i < ws.length) : rdOf ByteArray.empty ws (i : Int) = ws[i] := by
  unfold rdOf
  simp only [Int.toNat_natCast, List.getD_eq_getElem?_getD, List.getElem?_eq_getElem h, Option.getD_some]
theorem rd_tok {l : List S38} {i : Nat} (h : i < l.length) : rd_T38 l (i : Int) = l[i] := by
  unfold rd_T38
  simp only [Int.toNat_natCast, List.getD_eq_getElem?_getD, List.getElem?_eq_getElem h, Option.getD_some]
theorem blanks_end (l : List S38) (ws : List ByteArray) (s acc : ByteArray) (x : Int) (hs : ∃ m, scanAll s = (m, 0, 0, 0) ∧ l.map bareT = m.map bareT) (hn : l.length ≤ 1048576) (hf : Front acc (l.map tokL)) : ∃ K, tribunallaw06_LexisBlanks.j1 K l ws s 0 acc x false = some true := by
  obtain ⟨m, hm, hmb⟩ := hs
  by_cases hz : ((acc.size : Nat) : Int) > 1048576
  · refine ⟨2, ?_⟩
    rw [tribunallaw06_LexisBlanks.j1, if_neg (by decide), if_pos rfl, decide_eq_true hz, tribunallaw06_LexisBlanks.j3, if_pos rfl]
  · have hL := hf [] [] .nil
    rw [List.append_nil, List.append_nil] at hL
    obtain ⟨m2, h3, h4⟩ := layout_scanAll hL (by show acc.size ≤ _; omega)
    rw [strOf_data] at h3
    have hb : m.map bareT = m2.map bareT := by
      rw [h4, List.map_map, ← hmb]
      exact (List.map_congr_left (fun t _ => strT_tokL t)).symm
    have hml : m.length ≤ 1099511627776 := by
      have := congrArg List.length hmb
      rw [List.length_map, List.length_map] at this
      omega
    obtain ⟨k, hk⟩ := same_bare hb hml
    have hs1 : lexis_Scan.f s = some (m, 0, 0, 0) := congrArg some hm
    have hs2 : lexis_Scan.f acc = some (m2, 0, 0, 0) := congrArg some h3
    refine ⟨k + 1 + 1, ?_⟩
    rw [tribunallaw06_LexisBlanks.j1, if_neg (by decide), if_pos rfl, decide_eq_false hz, tribunallaw06_LexisBlanks.j3, if_neg (by decide), hs1, Option.bind_some, hs2, Option.bind_some, if_pos rfl, if_pos rfl, hk, Option.bind_some]
theorem blanks_run (l : List S38) (ws : List ByteArray) (s : ByteArray) (hs : ∃ m, scanAll s = (m, 0, 0, 0) ∧ l.map bareT = m.map bareT) (hn : l.length ≤ 1048576) (hl : ∀ t ∈ l, writes t ∧ t.f1.size ≤ 1048576) (hw : ∀ w ∈ ws, w.size ≤ 1048576) :
    ∀ (n i : Nat) (acc : ByteArray), i + n = l.length → acc.size ≤ i * 4194304 → Front acc ((l.take i).map tokL) → ∃ K, tribunallaw06_LexisBlanks.l0 K l ws s 0 acc i = some true
  | 0, i, acc, hi, ha, hf => by
    rw [List.take_of_length_le (by omega)] at hf
    obtain ⟨K, hK⟩ := blanks_end l ws s acc i hs hn hf
    refine ⟨K + 1, ?_⟩
    rw [tribunallaw06_LexisBlanks.l0, if_neg (by omega)]
    exact hK
  | n + 1, i, acc, hi, ha, hf => by
    have hil : i < l.length := by omega
    obtain ⟨hw1, hw2⟩ := hl (l[i]) (List.getElem_mem hil)
    have hrd := rd_tok hil
    obtain ⟨t, ht⟩ : ∃ t, t = l[i] := ⟨_, rfl⟩
    rw [← ht] at hw1 hw2 hrd
    have hws : lexis_Write.f t.f0 t.f1 t.f2 t.f3 t.f4 = some (writeR t.f0 t.f1 t.f2) := by
      unfold lexis_Write.f
      rw [if_pos (by omega)]
    have hsz := writeR_size t.f0 t.f1 t.f2
    have hf1 := front_tok hf hw1
    have htk : (l.take i).map tokL ++ [tokL t] = (l.take (i + 1)).map tokL := by
      rw [List.take_add_one, List.getElem?_eq_getElem hil, ← ht, List.map_append]
      rfl
    rw [htk] at hf1
    obtain ⟨x, hx⟩ : ∃ x, x = (writeR t.f0 t.f1 t.f2).1 := ⟨_, rfl⟩
    rw [← hx] at hf1 hsz
    have s1 : (acc ++ (⟨#[32, 9]⟩ : ByteArray)).size = acc.size + 2 := ByteArray.size_append ..
    have s2 : ((acc ++ (⟨#[32, 9]⟩ : ByteArray)) ++ x).size = acc.size + 2 + x.size := by rw [ByteArray.size_append, s1]
    have s3 : (((acc ++ (⟨#[32, 9]⟩ : ByteArray)) ++ x) ++ (⟨#[13, 10]⟩ : ByteArray)).size = acc.size + 2 + x.size + 2 := by rw [ByteArray.size_append, s2]; rfl
    obtain ⟨acc1, hacc⟩ : ∃ acc1, acc1 = (((acc ++ (⟨#[32, 9]⟩ : ByteArray)) ++ x) ++ (⟨#[13, 10]⟩ : ByteArray)) := ⟨_, rfl⟩
    have e : wrap64 ((i : Int) + 1) = ((i + 1 : Nat) : Int) := by unfold wrap64; omega
    have g1 : ((i : Nat) : Int) < ((l.length : Nat) : Int) := by omega
    have g2 : (0 : Int) ≤ ((i : Nat) : Int) := by omega
    have g3 : acc.size + 2 ≤ 9223372036854775807 := by omega
    have g4 : acc.size + 2 + x.size ≤ 9223372036854775807 := by omega
    have g5 : acc.size + 2 + x.size + 2 ≤ 9223372036854775807 := by omega
    have hstep : ∀ K, tribunallaw06_LexisBlanks.l0 (K + 2) l ws s 0 acc i = (if ((i : Nat) : Int) < (ws.length : Int) then tribunallaw06_LexisBlanks.l1 K l ws s 0 acc1 i 0 else tribunallaw06_LexisBlanks.l0 K l ws s 0 acc1 ((i + 1 : Nat) : Int)) := by
      intro K
      rw [tribunallaw06_LexisBlanks.l0, if_pos g1, tribunallaw06_LexisBlanks.j1, if_pos rfl, if_pos g2, if_pos g1, hrd, hws, Option.bind_some, if_pos g3, ← hx, s1, if_pos g4, s2, if_pos g5, e, ← hacc]
      exact if_pos rfl
    rw [← hacc] at hf1 s3
    by_cases hiw : i < ws.length
    · have hwz := hw (ws[i]) (List.getElem_mem hiw)
      have hrw := rd_str hiw
      obtain ⟨w, hww⟩ : ∃ w, w = ws[i] := ⟨_, rfl⟩
      rw [← hww] at hwz hrw
      obtain ⟨K, hK⟩ := inner_run l ws s acc1 i w hiw hrw hwz (by omega) (by omega) (fun hall => by
        have s4 : (((acc1 ++ (⟨#[59]⟩ : ByteArray)) ++ w) ++ (⟨#[10]⟩ : ByteArray)).size = acc1.size + 1 + w.size + 1 := by
          rw [ByteArray.size_append, ByteArray.size_append, ByteArray.size_append]; rfl
        exact blanks_run l ws s hs hn hl hw n (i + 1) _ (by omega) (by omega) (front_word hf1 (all_of_bytes hall))) w.size 0 (by omega) (fun p hp => by omega)
      refine ⟨K + 2, ?_⟩
      rw [hstep, if_pos (by omega)]
      exact hK
    · obtain ⟨K, hK⟩ := blanks_run l ws s hs hn hl hw n (i + 1) acc1 (by omega) (by omega) hf1
      refine ⟨K + 2, ?_⟩
      rw [hstep, if_neg (by omega)]
      exact hK
theorem lexisBlanks_pure (l0 : List S38) (l1 : List ByteArray) (hn : l0.length ≤ 1048576) (ht : ∀ t ∈ l0, t.f1.size ≤ 1048576) (hw : ∀ w ∈ l1, w.size ≤ 1048576) : ∃ k, tribunallaw06_LexisBlanks.f k l0 l1 = some true := by
  have hj : lexis_Join.f l0 = some (joinR l0) := by
    unfold lexis_Join.f
    rw [if_pos ⟨by omega, List.all_eq_true.2 fun t h => decide_eq_true (by have := ht t h; omega)⟩]
  have hfr : Front ⟨#[]⟩ (((l0.take 0).map tokL)) := fun rest ts hr => hr
  rcases joinR_cases l0 with ⟨h1, h2, h3⟩ | ⟨h1, h2⟩
  · obtain ⟨m, hm, hb⟩ := join_scan h1 h2
    obtain ⟨K, hK⟩ := blanks_run l0 l1 (strOf (joinL l0 true)) ⟨m, hm, hb⟩ hn (fun t h => ⟨h1 t h, ht t h⟩) hw l0.length 0 ⟨#[]⟩ (by omega) (by show 0 ≤ _; omega) hfr
    refine ⟨K, ?_⟩
    unfold tribunallaw06_LexisBlanks.f
    rw [awake_told, Option.bind_some, if_pos rfl, hj, Option.bind_some, h3]
    exact hK
  · refine ⟨3, ?_⟩
    unfold tribunallaw06_LexisBlanks.f
    rw [awake_told, Option.bind_some, if_pos rfl, hj, Option.bind_some, tribunallaw06_LexisBlanks.l0]
    have hj1 : tribunallaw06_LexisBlanks.j1 2 l0 l1 (joinR l0).1 (joinR l0).2 ⟨#[]⟩ 0 false = some true := by
      rw [tribunallaw06_LexisBlanks.j1, if_neg (by decide), if_neg h1, tribunallaw06_LexisBlanks.j3, if_pos rfl]
    split
    · rw [beq_eq_false_iff_ne.2 h1]
      exact hj1
    · exact hj1
end Go.Proofs.YthklnopfgoekeaaDoor.X
