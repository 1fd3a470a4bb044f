/- Tokens written out: what Write gives is what a token looks like, and back. -/
import Derived.Test.YthklnopfgoekeaaDoorPWrite
namespace Go.Proofs.YthklnopfgoekeaaDoor.X
open Go.RowKit Go.Proofs.YthklnopfgoekeaaDoorW.PrintWords Go.Proofs.YthklnopfgoekeaaDoorW.PrintLast Go.Proofs.YthklnopfgoekeaaDoorW.PrintMore
set_option linter.unusedVariables false

/-- A token as it would be written, on lists. -/
def textL (k : Int) (tx : List UInt8) (q : Bool) : List UInt8 :=
  if k = 5 then 35 :: 120 :: tx else if k = 6 then 35 :: 98 :: tx else if k = 9 then 58 :: tx
  else if k = 7 then 34 :: (dblL tx ++ [34]) else if k = 8 ∧ q = true then 124 :: (tx ++ [124]) else tx
theorem u8_all {P : UInt8 → Prop} (h : ∀ c : Fin 256, P (UInt8.ofNat c.val)) (c : UInt8) : P c := by
  have := h ⟨c.toNat, c.toNat_lt⟩
  simpa using this
theorem lower_twice : ∀ c : UInt8, Lib.lowerB (Lib.lowerB c) = Lib.lowerB c := u8_all (by decide +kernel)
theorem lower_hex : ∀ c : UInt8, hexB (by8 c) = true → hexB (by8 (Lib.lowerB c)) = true := u8_all (by decide +kernel)
theorem lower_bin : ∀ c : UInt8, binB (by8 c) = true → Lib.lowerB c = c := u8_all (by decide +kernel)
theorem Llow_low (h : List UInt8) : Lib.toLowerA (Lib.toLowerA h) = Lib.toLowerA h := by
  unfold Lib.toLowerA
  rw [List.map_map]
  exact List.map_congr_left (fun c _ => lower_twice c)
theorem Llow_bin : ∀ h : List UInt8, allP binB h = true → Lib.toLowerA h = h
  | [], _ => rfl
  | c :: h, hh => by
    rw [allP, List.all_cons, Bool.and_eq_true] at hh
    unfold Lib.toLowerA
    rw [List.map_cons, lower_bin c hh.1]
    exact congrArg (c :: ·) (Llow_bin h hh.2)
theorem Llow_hex : ∀ h : List UInt8, allP hexB h = true → allP hexB (Lib.toLowerA h) = true
  | [], _ => rfl
  | c :: h, hh => by
    rw [allP, List.all_cons, Bool.and_eq_true] at hh
    unfold Lib.toLowerA
    rw [List.map_cons, allP, List.all_cons, Bool.and_eq_true]
    exact ⟨lower_hex c hh.1, Llow_hex h hh.2⟩
theorem Llow_length (h : List UInt8) : (Lib.toLowerA h).length = h.length := by
  unfold Lib.toLowerA
  exact List.length_map _
theorem Llow_ne {h : List UInt8} (h0 : h ≠ []) : Lib.toLowerA h ≠ [] := by
  cases h with
  | nil => exact absurd rfl h0
  | cons c h => unfold Lib.toLowerA; simp
/-- The written form looks like the token too; it is as long, and the same but for a hexadecimal's letters. -/
theorem lex_canon {w : List UInt8} {k : Int} {tx : List UInt8} {q : Bool} (h : Lex w k tx q) : Lex (textL k tx q) k tx q ∧ (textL k tx q).length = w.length ∧ (k ≠ 5 → textL k tx q = w) := by
  cases h with
  | opens => exact ⟨.opens, rfl, fun _ => rfl⟩
  | closes => exact ⟨.closes, rfl, fun _ => rfl⟩
  | num w h => exact ⟨.num w h, rfl, fun _ => rfl⟩
  | dec a b h h0 hb => exact ⟨.dec a b h h0 hb, rfl, fun _ => rfl⟩
  | hex h h0 hh =>
    refine ⟨?_, ?_, fun e => absurd rfl e⟩
    · have := Lex.hex (Lib.toLowerA h) (Llow_ne h0) (Llow_hex h hh)
      rw [Llow_low] at this
      exact this
    · show (35 :: 120 :: Lib.toLowerA h).length = _
      rw [List.length_cons, List.length_cons, Llow_length]; rfl
  | bin h h0 hh =>
    have e : textL 6 (Lib.toLowerA h) false = 35 :: 98 :: h := by
      show 35 :: 98 :: Lib.toLowerA h = _
      rw [Llow_bin h hh]
    exact ⟨by rw [e]; exact .bin h h0 hh, by rw [e], fun _ => e⟩
  | str t ht => exact ⟨.str tx ht, rfl, fun _ => rfl⟩
  | sym w hw hc => exact ⟨.sym w hw hc, rfl, fun _ => rfl⟩
  | bar t ht => exact ⟨.bar tx ht, rfl, fun _ => rfl⟩
  | key t h0 ht => exact ⟨.key tx h0 ht, rfl, fun _ => rfl⟩
theorem strOf_append (a b : List UInt8) : strOf a ++ strOf b = strOf (a ++ b) := by
  have h : (strOf a ++ strOf b).data.toList = a ++ b := by
    rw [ByteArray.data_append, Array.toList_append, strOf_list, strOf_list]
  rw [← h, strOf_data]
theorem all_at {p : Int → Bool} {t : List UInt8} (h : allP p t = true) (j : Nat) (hj : j < t.length) : p (bt (strOf t) j) = true := by
  rw [bt_from, from_str, List.drop_eq_getElem_cons hj]
  exact List.all_eq_true.1 h _ (List.getElem_mem hj)
theorem text_L {w : List UInt8} {k : Int} {tx : List UInt8} {q : Bool} (h : Lex w k tx q) : textR k (strOf tx) q = strOf (textL k tx q) := by
  cases h with
  | opens => rfl
  | closes => rfl
  | num w h => rfl
  | dec a b h h0 hb => rfl
  | hex h h0 hh => exact strOf_append [35, 120] _
  | bin h h0 hh => exact strOf_append [35, 98] _
  | str t ht =>
    show (strR (strOf tx)).1 = strOf (34 :: (dblL tx ++ [34]))
    rw [str_ok (fun j hj => by
      have := all_at ht j (by rw [strOf_size] at hj; exact hj)
      simpa using this)]
    show strOf [34] ++ dbl (strOf tx) ++ strOf [34] = _
    unfold dbl
    rw [strOf_list, strOf_append, strOf_append]
    rfl
  | sym w hw hc => rfl
  | bar t ht =>
    show strOf [124] ++ strOf tx ++ strOf [124] = _
    rw [strOf_append, strOf_append]
    rfl
  | key t h0 ht => exact strOf_append [58] _
theorem fol_end (k : Int) (q : Bool) : folB k q [] = true := by
  unfold folB
  split
  · rfl
  · split <;> rfl
theorem arr_ext {a b : ByteArray} (h : a.toList = b.toList) : a = b := by
  rw [ByteArray.toList_eq, ByteArray.toList_eq] at h
  rw [← strOf_data a, h, strOf_data]
/-- Is it the token alone? Its place is not asked. -/
def aloneR (k : Int) (tx : ByteArray) (q : Bool) (r : List S38 × Int × Int × Int) : Bool := match r with
  | ([t], _, _, e) => e == 0 && (t.f0 == k && (t.f1.toList == tx.toList && t.f2 == q))
  | _ => false
/-- What looks like the token and is written so: scanned, it is the token alone, at the head. -/
theorem lex_alone {k : Int} {tx : List UInt8} {q : Bool} (h : Lex (textL k tx q) k tx q) (hs : (textL k tx q).length ≤ 1048576) : scanAll (strOf (textL k tx q)) = ([⟨k, strOf tx, q, 1, 1⟩], 0, 0, 0) := by
  have hp := lex_pos h
  have hsz : (strOf (textL k tx q)).size = (textL k tx q).length := strOf_size _
  have hr := lex_read h [] (fol_end k q)
  rw [List.append_nil] at hr
  have hro : readOne (strOf (textL k tx q)) 0 = ⟨0, some (k, strOf tx, q), (textL k tx q).length⟩ := by
    rw [readOne_L, from_str]
    exact hr
  unfold scanAll
  rw [if_neg (by omega), scanGo_more (by omega) (by rw [hro]), hro]
  show scanGo _ (strOf (textL k tx q)).size (0 + (textL k tx q).length) _ _ [⟨k, strOf tx, q, 1, 1⟩] = _
  exact scanGo_end (by omega) (by omega)
theorem lex_write {k : Int} {tx : List UInt8} {q : Bool} (h : Lex (textL k tx q) k tx q) (hs : (textL k tx q).length ≤ 1048576) : writeR k (strOf tx) q = (strOf (textL k tx q), 0) := by
  unfold writeR
  rw [text_L h, lex_alone h hs, if_pos ⟨by rw [strOf_size]; exact hs, by simp [aloneB]⟩]
theorem layout_one : ∀ (l : List UInt8) (p : Int × List UInt8 × Bool), Layout l [p] → ∃ pre w rest, l = pre ++ (w ++ rest) ∧ Lex w p.1 p.2.1 p.2.2 := by
  intro l p h
  generalize hts : [p] = ts at h
  induction h with
  | nil => cases hts
  | blank c r ts hc hr ih =>
    obtain ⟨pre, w, rest, e, hl⟩ := ih hts
    exact ⟨c :: pre, w, rest, by rw [e]; rfl, hl⟩
  | comment b r ts hb hr0 hr ih =>
    obtain ⟨pre, w, rest, e, hl⟩ := ih hts
    exact ⟨59 :: (b ++ pre), w, rest, by rw [e]; simp, hl⟩
  | tok w k tx q r ts hw hf hr ih =>
    injection hts with h1 h2
    subst h1
    exact ⟨[], w, r, rfl, hw⟩
/-- What is scanned as one token of that kind, text and bar is the written form. -/
theorem alone_back {k : Int} {tx : ByteArray} {q : Bool} {m : S38} {a b : Int} (h : scanAll (textR k tx q) = ([m], a, b, 0)) (h0 : m.f0 = k) (h1 : m.f1 = tx) (h2 : m.f2 = q) : ∃ t, tx = strOf t ∧ Lex (textL k t q) k t q ∧ (textL k t q).length ≤ 1048576 := by
  unfold scanAll at h
  split at h
  · injection h with h _; cases h
  · rename_i hsz
    obtain ⟨ts, hL, hm⟩ := scan_layout _ _ _ _ _ _ _ _ (by omega) h
    obtain ⟨p, rfl⟩ : ∃ p, ts = [p] := by
      have := congrArg List.length hm
      simp only [List.length_map, List.length_cons, List.length_nil] at this
      match ts, this with
      | [p], _ => exact ⟨p, rfl⟩
    injection hm with hm _
    obtain ⟨k1, t, q1⟩ := p
    have e1 : k = k1 := by have := congrArg (fun z => z.1) hm; exact h0.symm.trans this
    have e2 : tx = strOf t := by have := congrArg (fun z => z.2.1) hm; exact h1.symm.trans this
    have e3 : q = q1 := by have := congrArg (fun z => z.2.2) hm; exact h2.symm.trans this
    subst e1 e3
    obtain ⟨pre, w, rest, e, hl⟩ := layout_one _ _ hL
    obtain ⟨c1, c2, -⟩ := lex_canon hl
    refine ⟨t, e2, c1, ?_⟩
    have h9 := congrArg List.length e
    rw [from_length, List.length_append, List.length_append] at h9
    have hl2 : w.length = (textL k t q).length := c2.symm
    omega
theorem write_back {k : Int} {tx : ByteArray} {q : Bool} {r : ByteArray} (h : writeR k tx q = (r, 0)) : ∃ t, tx = strOf t ∧ Lex (textL k t q) k t q ∧ (textL k t q).length ≤ 1048576 ∧ r = strOf (textL k t q) := by
  unfold writeR at h
  split at h
  · rename_i hh
    obtain ⟨h1, h2⟩ := hh
    unfold aloneB at h2
    split at h2
    · rename_i t a b e hsc
      simp only [Bool.and_eq_true, beq_iff_eq] at h2
      obtain ⟨he, h3, h4, h5, -⟩ := h2
      subst he
      obtain ⟨tl, e1, e2, e3⟩ := alone_back hsc h3 (arr_ext h4) h5
      refine ⟨tl, e1, e2, e3, ?_⟩
      injection h with h _
      rw [← h, e1, text_L e2]
    · cases h2
  · injection h with _ h; cases h
end Go.Proofs.YthklnopfgoekeaaDoor.X
