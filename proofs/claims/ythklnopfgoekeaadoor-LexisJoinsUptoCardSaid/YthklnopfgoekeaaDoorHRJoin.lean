/- What the reference writes is what the program writes; the same for a row of tokens: the pure part. The reference's Write: it gives what the program's Write gives. The reference's row of tokens: what it writes is what the program writes. -/
import Derived.Test.YthklnopfgoekeaaDoorPJoin
import Derived.Test.YthklnopfgoekeaaDoorX6
import Derived.Test.YthklnopfgoekeaaDoorHRScan
import Derived.Deep.CutBlock
import Derived.Deep.DeepCutAuto
namespace Go.Proofs.YthklnopfgoekeaaDoor.X
section
open Go.RowKit Go.Proofs.YthklnopfgoekeaaDoorW.PrintWords Go.Proofs.YthklnopfgoekeaaDoorW.PrintLast Go.Proofs.YthklnopfgoekeaaDoorW.PrintMore
set_option linter.unusedVariables false
theorem inner_print : ∀ c : UInt8, tribunalref06_Inner.f (by8 c) = some (printB (by8 c)) := u8_all (by decide +kernel)
theorem dblL_take (l : List UInt8) (i : Nat) (h : i < l.length) : dblL (l.take (i + 1)) = dblL (l.take i) ++ (if l[i] = 34 then [34, 34] else [l[i]]) := by
  rw [List.take_add_one, List.getElem?_eq_getElem h, dblL_append]
  rw [Option.toList_some, dblL]
  split <;> rfl
theorem strOf_app1 (l : List UInt8) (b : ByteArray) : strOf l ++ b = strOf (l ++ b.data.toList) := by
  rw [← strOf_append, strOf_data]
theorem rstr_run (t : ByteArray) (ht : t.size ≤ 1099511627776) : ∀ (n i : Nat), i + n = t.size → (∀ j, j < i → printB (bt t (((0 : Nat) : Int) + (j : Nat))) = true) → tribunalref06_String.l0 (n + 1) t (strOf (34 :: dblTo t i)) i = some (strR t)
  | 0, i, hi, hp => by
    have hz : (strOf (34 :: dblTo t i)).size ≤ 1 + 2 * i := by
      rw [strOf_size, List.length_cons]
      have := dblTo_length t i (by omega)
      omega
    rw [tribunalref06_String.l0, if_neg (by omega), if_pos (by omega), str_ok (fun j hj => hp j (by omega))]
    have e : dblTo t i = dblL t.data.toList := by
      unfold dblTo
      rw [List.take_of_length_le (by show t.size ≤ i; omega)]
    rw [strOf_app1, e]
    unfold quoted dbl
    rw [show (⟨#[34]⟩ : ByteArray) = strOf [34] from rfl, strOf_append, strOf_append, strOf_list]
    rfl
  | n + 1, i, hi, hp => by
    have hz : (strOf (34 :: dblTo t i)).size ≤ 1 + 2 * i := by
      rw [strOf_size, List.length_cons]
      have := dblTo_length t i (by omega)
      omega
    have hl : i < t.data.toList.length := by show i < t.size; omega
    obtain ⟨c, hc, hb⟩ := from_cons (s := t) (x := i) (by omega)
    have hg : t.data.toList[i] = c := by
      have h := List.drop_eq_getElem_cons hl
      unfold from_ at hc
      rw [h] at hc
      injection hc
    have e1 : wrap64 ((i : Int) + 1) = ((i + 1 : Nat) : Int) := by unfold wrap64; omega
    have hex : t.extract i (i + 1) = strOf [c] := by
      rw [extract_from, hc]; rfl
    rw [tribunalref06_String.l0, if_pos (by omega), if_pos (by omega), hb, inner_print, Option.bind_some, e1, Int.toNat_natCast, Int.toNat_natCast, hex]
    by_cases hpr : printB (by8 c) = true
    · have ih := rstr_run t ht n (i + 1) (by omega) (fun j hj => by
        by_cases hji : j < i
        · exact hp j hji
        · have e : (((0 : Nat) : Int) + (j : Nat)) = (i : Int) := by omega
          rw [e, hb]; exact hpr)
      have ed : dblTo t (i + 1) = dblTo t i ++ (if c = 34 then [34, 34] else [c]) := by
        unfold dblTo
        rw [dblL_take _ _ hl, hg]
      rw [if_pos hpr]
      by_cases h34 : c = 34
      · rw [if_pos h34] at ed
        rw [if_pos (by8_34.2 h34), if_pos (by omega), if_pos (by omega), if_pos (by omega)]
        have e2 : strOf (34 :: dblTo t i) ++ (⟨#[34]⟩ : ByteArray) ++ strOf [c] = strOf (34 :: dblTo t (i + 1)) := by
          rw [show (⟨#[34]⟩ : ByteArray) = strOf [34] from rfl, strOf_append, strOf_append, ed, h34]
          simp
        have hz2 : (strOf (34 :: dblTo t i) ++ (⟨#[34]⟩ : ByteArray)).size + (strOf [c]).size ≤ 9223372036854775807 := by
          rw [ByteArray.size_append, strOf_size [c]]
          show _ + 1 + 1 ≤ _
          omega
        rw [if_pos hz2, e2]
        exact ih
      · rw [if_neg h34] at ed
        rw [if_neg (fun h => h34 (by8_34.1 h)), if_pos (by omega), if_pos (by omega), if_pos (by rw [strOf_size [c]]; show _ + 1 ≤ _; omega), strOf_append]
        have e2 : strOf (34 :: dblTo t i ++ [c]) = strOf (34 :: dblTo t (i + 1)) := by rw [ed]; rfl
        rw [e2]
        exact ih
    · rw [if_neg hpr, str_bad (by omega) hp (by rw [hb]; simpa using hpr)]
theorem rstring_told (t : ByteArray) (ht : t.size ≤ 1099511627776) : tribunalref06_String.f (t.size + 1) t = some (strR t) := by
  unfold tribunalref06_String.f
  exact rstr_run t ht t.size 0 (by omega) (fun j hj => by omega)
/-- A kind from 1 to 9. -/
theorem lex_kind {w : List UInt8} {k : Int} {tx : List UInt8} {q : Bool} (h : Lex w k tx q) : 1 ≤ k ∧ k ≤ 9 := by
  cases h <;> decide
theorem writeR_cases (k : Int) (tx : ByteArray) (q : Bool) : (writeR k tx q).2 = 0 ∨ writeR k tx q = (⟨#[]⟩, 73) := by
  unfold writeR
  split
  · exact .inl rfl
  · exact .inr rfl
theorem write_odd {k : Int} (tx : ByteArray) (q : Bool) (h : k < 1 ∨ 9 < k) : writeR k tx q = (⟨#[]⟩, 73) := by
  rcases writeR_cases k tx q with h1 | h1
  · obtain ⟨r, hr⟩ : ∃ r, r = writeR k tx q := ⟨_, rfl⟩
    rw [← hr] at h1
    obtain ⟨r1, r2⟩ := r
    have h1 : r2 = 0 := h1
    subst h1
    obtain ⟨tl, e1, e2, e3, e4⟩ := write_back hr.symm
    have := lex_kind e2
    omega
  · exact h1
theorem write_alone {k : Int} {tx : ByteArray} {q : Bool} (h : aloneR k tx q (scanAll (textR k tx q)) = true) : writeR k tx q = (textR k tx q, 0) := by
  unfold aloneR at h
  split at h
  · rename_i t a b e hsc
    simp only [Bool.and_eq_true, beq_iff_eq] at h
    obtain ⟨he, h3, h4, h5⟩ := h
    subst he
    obtain ⟨tl, e1, e2, e3⟩ := alone_back hsc h3 (arr_ext h4) h5
    rw [e1, lex_write e2 e3, text_L e2]
  · cases h
theorem write_not {k : Int} {tx : ByteArray} {q : Bool} (h : aloneR k tx q (scanAll (textR k tx q)) = false) : writeR k tx q = (⟨#[]⟩, 73) := by
  unfold writeR
  rw [if_neg]
  rintro ⟨_, h2⟩
  unfold aloneB at h2
  unfold aloneR at h
  split at h2
  · rename_i t a b e hsc
    rw [hsc] at h
    simp only [Bool.and_eq_true, beq_iff_eq] at h2
    simp [h2.1, h2.2.1, h2.2.2.1, h2.2.2.2.1] at h
  · cases h2
theorem write_str {tx : ByteArray} (q : Bool) (h : (strR tx).2 ≠ 0) : writeR 7 tx q = (⟨#[]⟩, 73) := by
  refine write_not ?_
  have e : textR 7 tx q = strOf [] := by
    show (strR tx).1 = _
    unfold strR at h ⊢
    split
    · rename_i h1
      rw [if_pos h1] at h
      exact absurd rfl h
    · rfl
  rw [e]
  rfl
end
section
open Go.RowKit Go.Proofs.YthklnopfgoekeaaDoorW.PrintWords Go.Proofs.YthklnopfgoekeaaDoorW.PrintLast Go.Proofs.YthklnopfgoekeaaDoorW.PrintMore
set_option linter.unusedVariables false
theorem kind_cases (k : Int) : k = 1 ∨ k = 2 ∨ k = 3 ∨ k = 4 ∨ k = 5 ∨ k = 6 ∨ k = 7 ∨ k = 8 ∨ k = 9 ∨ (k < 1 ∨ 9 < k) := by omega
/-- What the text that is scanned says of the token. -/
def toldBy (k : Int) (tx : ByteArray) (q : Bool) (tt : ByteArray) : Prop := (aloneR k tx q (scanAll tt) = true → writeR k tx q = (tt, 0)) ∧ (aloneR k tx q (scanAll tt) = false → writeR k tx q = (⟨#[]⟩, 73))
theorem toldBy_text {k : Int} {tx : ByteArray} {q : Bool} {tt : ByteArray} (h : textR k tx q = tt) : toldBy k tx q tt := by
  subst h
  exact ⟨write_alone, write_not⟩
theorem toldBy_odd {k : Int} (tx : ByteArray) (q : Bool) (h : k < 1 ∨ 9 < k) : toldBy k tx q ⟨#[]⟩ := by
  refine ⟨fun h1 => ?_, fun _ => write_odd tx q h⟩
  exact absurd h1 (by
    have e : scanAll ⟨#[]⟩ = ([], 0, 0, 0) := rfl
    rw [e]
    exact Bool.false_ne_true)
set_option maxHeartbeats 4000000 in
set_option maxRecDepth 100000 in
theorem rwrite_tells (k : Int) (tx : ByteArray) (q : Bool) (l c : Int) (ht : tx.size ≤ 1099511627776) (w : World) :
    Calls Tryd.prog 38 #[.agg #[.int .i64 k, .string tx, .bool q, .int .i64 l, .int .i64 c]] w fun e w' => e = .returned (.tuple #[.string (writeR k tx q).1, .int .i64 (writeR k tx q).2]) ∧ Below w.heap.size w w' := by
  have HW : Aside0 (∀ o : Obj, Below w.heap.size w (w.alloc o)) := ⟨fun o => (Below.refl _ _).alloc (Nat.le_refl _) _⟩
  have HN : Aside0 (∀ o : Obj, (w.alloc o).heap[w.heap.size]? = some o) := ⟨fun o => heap_alloc_new w o⟩
  go_enter Tryd.func38, Tryd.ntmps38
  go_upto_block 0 with (fail)
  go_cut [4] (fun v4 wc => ∃ tt : ByteArray, v4 = .string tt ∧ Aside0 (toldBy k tx q tt) ∧ Aside0 (Below w.heap.size w wc) ∧ Aside0 (wc.heap[w.heap.size]? = some (.cells #[.int .i64 k, .string tx, .bool q, .int .i64 l, .int .i64 c] 38 (0, 0))))
  case first =>
    rcases kind_cases k with rfl | rfl | rfl | rfl | rfl | rfl | rfl | rfl | rfl | hk
    · go_wp2
      go_meet
      case rel => exact ⟨_, rfl, ⟨toldBy_text rfl⟩, ⟨HW.out _⟩, ⟨HN.out _⟩⟩
    · go_wp2
      go_meet
      case rel => exact ⟨_, rfl, ⟨toldBy_text rfl⟩, ⟨HW.out _⟩, ⟨HN.out _⟩⟩
    · go_wp2
      go_meet
      case rel => exact ⟨_, rfl, ⟨toldBy_text rfl⟩, ⟨HW.out _⟩, ⟨HN.out _⟩⟩
    · go_wp2
      go_meet
      case rel => exact ⟨_, rfl, ⟨toldBy_text rfl⟩, ⟨HW.out _⟩, ⟨HN.out _⟩⟩
    · go_wp2
      go_meet
      case rel => exact ⟨_, rfl, ⟨toldBy_text rfl⟩, ⟨HW.out _⟩, ⟨HN.out _⟩⟩
    · go_wp2
      go_meet
      case rel => exact ⟨_, rfl, ⟨toldBy_text rfl⟩, ⟨HW.out _⟩, ⟨HN.out _⟩⟩
    · obtain ⟨sx, sf, hs⟩ : ∃ sx sf, strR tx = (sx, sf) := ⟨_, _, rfl⟩
      have HS := Aside0.mk hs
      clear hs
      go_wp2_with fail
      refine (tribunalref06_String.calls (tx.size + 1) tx sx sf _ (by rw [rstring_told tx ht, HS.out])).mono ?_
      rintro e w1 ⟨rfl, hd1⟩
      have HB1 : Aside0 (Below w.heap.size w w1) := ⟨below_then (HW.out _) (by simp) hd1.below⟩
      have HK1 : Aside0 (w1.heap[w.heap.size]? = some (.cells #[.int .i64 7, .string tx, .bool q, .int .i64 l, .int .i64 c] 38 (0, 0))) := ⟨blk_below (HN.out _) hd1.below⟩
      clear hd1
      cases hf : (sf != 0) with
      | true =>
        have HE : Aside0 (writeR 7 tx q = (⟨#[]⟩, 73)) := ⟨write_str q (by rw [HS.out]; simpa using hf)⟩
        go_wp2
        go_ret2
        rw [HE.out]
        exact ⟨rfl, HB1.out⟩
      | false =>
        go_wp2
        go_meet
        case rel => exact ⟨_, rfl, ⟨toldBy_text (by show (strR tx).1 = _; rw [HS.out])⟩, HB1, HK1⟩
    · cases q with
      | true =>
        go_wp2
        go_meet
        case rel => exact ⟨_, rfl, ⟨toldBy_text rfl⟩, ⟨HW.out _⟩, ⟨HN.out _⟩⟩
      | false =>
        go_wp2
        go_meet
        case rel => exact ⟨_, rfl, ⟨toldBy_text rfl⟩, ⟨HW.out _⟩, ⟨HN.out _⟩⟩
    · go_wp2
      go_meet
      case rel => exact ⟨_, rfl, ⟨toldBy_text rfl⟩, ⟨HW.out _⟩, ⟨HN.out _⟩⟩
    · have h1 : (k == 1) = false := by simp; omega
      have h2 : (k == 2) = false := by simp; omega
      have h3 : (k == 3) = false := by simp; omega
      have h4 : (k == 4) = false := by simp; omega
      have h5 : (k == 5) = false := by simp; omega
      have h6 : (k == 6) = false := by simp; omega
      have h7 : (k == 7) = false := by simp; omega
      have h8 : (k == 8) = false := by simp; omega
      have h9 : (k == 9) = false := by simp; omega
      go_wp2
      go_meet
      case rel => exact ⟨_, rfl, ⟨toldBy_odd tx q hk⟩, ⟨HW.out _⟩, ⟨HN.out _⟩⟩
  case rest =>
    obtain ⟨tt, rfl, HT, HB, HK⟩ := hcut
    obtain ⟨r1, r2, r3, r4, hsc⟩ : ∃ r1 r2 r3 r4, scanAll tt = (r1, r2, r3, r4) := ⟨_, _, _, _, rfl⟩
    have HSC := Aside0.mk hsc
    have HY : Aside0 (aloneR k tx q (r1, r2, r3, r4) = true → writeR k tx q = (tt, 0)) := ⟨fun h => HT.out.1 (by rw [HSC.out]; exact h)⟩
    have HN2 : Aside0 (aloneR k tx q (r1, r2, r3, r4) = false → writeR k tx q = (⟨#[]⟩, 73)) := ⟨fun h => HT.out.2 (by rw [HSC.out]; exact h)⟩
    clear hsc HT
    go_wp2_with fail
    refine (tribunalref06_Scan.calls tt r1 r2 r3 r4 _ (by unfold tribunalref06_Scan.f; rw [HSC.out])).mono ?_
    rintro e w2 ⟨v0, rfl, hR, hb2⟩
    have HB2 : Aside0 (Below w.heap.size w w2) := ⟨below_then HB.out HB.out.size hb2⟩
    have hk2 := blk_below HK.out hb2
    obtain ⟨d0, d1, d2, d3, d4⟩ := box38 hk2
    obtain ⟨A, cp, rfl, hcp, hC⟩ := Kd.R_reads hR
    have HA : Aside0 (∀ ad, A = some ad → ∃ g, ad = ⟨g, 0, none⟩) := ⟨fun ad h => by subst h; exact Kd.R_head hR⟩
    have HC3 := Aside0.mk hC
    clear hR hb2 hk2 hC d3 d4 HB HK HW HN
    go_wp2_with fail
    cases he : (r4 != 0) with
    | true =>
      have HE : Aside0 (writeR k tx q = (⟨#[]⟩, 73)) := ⟨HN2.out (by
        unfold aloneR; split
        · rename_i h1; injection h1 with _ h1; injection h1 with _ h1; injection h1 with _ h1; subst h1; simp at he ⊢; exact fun h => absurd h he
        · rfl)⟩
      go_quiet (fail)
      go_wp2
      go_ret2
      rw [HE.out]
      exact ⟨rfl, pw_below_drewN HB2.out _⟩
    | false =>
      by_cases hl : r1.length = 1
      · obtain ⟨t, rfl⟩ : ∃ t, r1 = [t] := by
          match r1, hl with
          | [t], _ => exact ⟨t, rfl⟩
        have hlb : ((([t] : List S38).length : Nat) : Int) = 1 := rfl
        obtain ⟨ad, rfl, e0, e1, e2, e3, e4⟩ := at_T38 HC3.out 0 (by omega) (by simp)
        obtain ⟨g, rfl⟩ := HA.out _ rfl
        have hrd : rd_T38 [t] 0 = t := rfl
        rw [hrd] at e0 e1 e2 e3 e4
        have e0 : w2.cell? ⟨g, 0, none⟩ = some (.int .i64 t.f0) := e0
        have e1 : w2.cell? ⟨g, 1, none⟩ = some (.string t.f1) := e1
        have e2 : w2.cell? ⟨g, 2, none⟩ = some (.bool t.f2) := e2
        clear e3 e4
        cases hq0 : (t.f0 != k) with
        | true =>
          have HE : Aside0 (writeR k tx q = (⟨#[]⟩, 73)) := ⟨HN2.out (by
            show (r4 == 0 && (t.f0 == k && _)) = false
            rw [show (t.f0 == k) = false by simpa using hq0]; simp)⟩
          go_quiet (fail)
          go_wp2
          go_ret2
          rw [HE.out]
          exact ⟨rfl, pw_below_drewN HB2.out _⟩
        | false =>
          cases hq1 : (t.f1.toList != tx.toList) with
          | true =>
            have hq1b : (t.f1.toList == tx.toList) = false := by simpa using hq1
            have HE : Aside0 (writeR k tx q = (⟨#[]⟩, 73)) := ⟨HN2.out (by
              show (r4 == 0 && (t.f0 == k && (t.f1.toList == tx.toList && _))) = false
              rw [show (t.f1.toList == tx.toList) = false by simpa using hq1]; simp)⟩
            go_quiet (fail)
            go_wp2
            go_ret2
            rw [HE.out]
            exact ⟨rfl, pw_below_drewN HB2.out _⟩
          | false =>
            have hq1b : (t.f1.toList == tx.toList) = true := by simpa using hq1
            cases hq2 : (t.f2 != q) with
            | true =>
              have hq2b : (t.f2 == q) = false := by simpa using hq2
              have HE : Aside0 (writeR k tx q = (⟨#[]⟩, 73)) := ⟨HN2.out (by
                show (r4 == 0 && (t.f0 == k && (t.f1.toList == tx.toList && t.f2 == q))) = false
                rw [show (t.f2 == q) = false by simpa using hq2]; simp)⟩
              go_quiet (fail)
              go_wp2
              go_ret2
              rw [HE.out]
              exact ⟨rfl, pw_below_drewN HB2.out _⟩
            | false =>
              have hq2b : (t.f2 == q) = true := by simpa using hq2
              have HE : Aside0 (writeR k tx q = (tt, 0)) := ⟨HY.out (by
                show (r4 == 0 && (t.f0 == k && (t.f1.toList == tx.toList && t.f2 == q))) = true
                rw [show (t.f2 == q) = true by simpa using hq2, show (t.f1.toList == tx.toList) = true by simpa using hq1, show (t.f0 == k) = true by simpa using hq0, show (r4 == 0) = true by simpa using he]; rfl)⟩
              go_quiet (fail)
              go_wp2
              go_ret2
              rw [HE.out]
              exact ⟨rfl, pw_below_drewN HB2.out _⟩
      · have hlb : ((r1.length : Int) != 1) = true := by simp; omega
        have HE : Aside0 (writeR k tx q = (⟨#[]⟩, 73)) := ⟨HN2.out (by
          unfold aloneR; split
          · rename_i h1; injection h1 with h1 _; subst h1; exact absurd rfl hl
          · rfl)⟩
        go_quiet (fail)
        go_wp2
        go_ret2
        rw [HE.out]
        exact ⟨rfl, pw_below_drewN HB2.out _⟩
end
section
open Go.RowKit Go.Proofs.YthklnopfgoekeaaDoorW.PrintWords Go.Proofs.YthklnopfgoekeaaDoorW.PrintLast Go.Proofs.YthklnopfgoekeaaDoorW.PrintMore
set_option linter.unusedVariables false
/-- A token's text with the blank ahead of it, or without. -/
def spc (b : Bool) (x : ByteArray) : ByteArray := if b = true then x else (⟨#[32]⟩ : ByteArray) ++ x
def rjoinGo : List S38 → Bool → ByteArray → Bool → ByteArray × Int
  | [], _, out, long => if long = true then (⟨#[]⟩, 2) else (out, 0)
  | t :: ts, g, out, long => if (writeR t.f0 t.f1 t.f2).2 = 0 then
      (if (long || decide (((out.size : Nat) : Int) > 1048576 - (((spc (g || t.f0 == 2) (writeR t.f0 t.f1 t.f2).1).size : Nat) : Int))) = true then rjoinGo ts (t.f0 == 1) out true
       else rjoinGo ts (t.f0 == 1) (out ++ spc (g || t.f0 == 2) (writeR t.f0 t.f1 t.f2).1) false)
    else (⟨#[]⟩, (writeR t.f0 t.f1 t.f2).2)
theorem spc_str (b : Bool) (x : ByteArray) : spc b x = strOf ((if b = true then [] else [32]) ++ x.data.toList) := by
  unfold spc
  split
  · rw [List.nil_append, strOf_data]
  · rw [show (⟨#[32]⟩ : ByteArray) = strOf [32] from rfl, ← strOf_append, strOf_data]
theorem rjoin_told : ∀ (l : List S38) (g : Bool) (out : ByteArray) (long : Bool), (∀ t ∈ l, writes t) → (long = false → out.size ≤ 1048576) → rjoinGo l g out long = if long = true then (⟨#[]⟩, 2) else if out.size + (joinL l g).length ≤ 1048576 then (out ++ strOf (joinL l g), 0) else (⟨#[]⟩, 2)
  | [], g, out, long, h, ho => by
    rw [rjoinGo, joinL]
    cases long with
    | true => rfl
    | false =>
      rw [if_neg (by decide), if_neg (by decide), if_pos (by have := ho rfl; simpa using this)]
      congr 1
      rw [show out = strOf out.data.toList from (strOf_data out).symm, strOf_append, List.append_nil]
  | t :: ts, g, out, long, h, ho => by
    have h0 : writes t := h t (List.mem_cons_self ..)
    have h1 : ∀ u ∈ ts, writes u := fun u hu => h u (List.mem_cons_of_mem _ hu)
    unfold writes at h0
    rw [rjoinGo, if_pos h0, joinL]
    obtain ⟨x, hx⟩ : ∃ x, x = (writeR t.f0 t.f1 t.f2).1 := ⟨_, rfl⟩
    rw [← hx]
    have hs := spc_str (g || t.f0 == 2) x
    obtain ⟨s, hse⟩ : ∃ s, s = spc (g || t.f0 == 2) x := ⟨_, rfl⟩
    rw [← hse] at hs ⊢
    have hlen : (if (g || t.f0 == 2) = true then [] else [32] : List UInt8).length + x.data.toList.length = s.size := by
      rw [hs, strOf_size, List.length_append]
    cases long with
    | true =>
      rw [Bool.true_or, if_pos rfl, rjoin_told ts _ _ true h1 (fun h => by cases h), if_pos rfl, if_pos rfl]
    | false =>
      have ho := ho rfl
      rw [Bool.false_or, if_neg (show ¬ false = true by decide)]
      by_cases hb : ((out.size : Nat) : Int) > 1048576 - ((s.size : Nat) : Int)
      · rw [decide_eq_true hb, if_pos rfl, rjoin_told ts _ _ true h1 (fun h => by cases h), if_pos rfl, if_neg]
        rw [List.length_append, List.length_append]
        omega
      · rw [decide_eq_false hb, if_neg (show ¬ false = true by decide), rjoin_told ts _ _ false h1 (fun _ => by rw [ByteArray.size_append]; omega), if_neg (show ¬ false = true by decide), ByteArray.size_append]
        have e : out.size + s.size + (joinL ts (t.f0 == 1)).length = out.size + ((if (g || t.f0 == 2) = true then [] else [32]) ++ (x.data.toList ++ joinL ts (t.f0 == 1))).length := by
          rw [List.length_append, List.length_append]; omega
        rw [e]
        have e2 : out ++ s ++ strOf (joinL ts (t.f0 == 1)) = out ++ strOf ((if (g || t.f0 == 2) = true then [] else [32]) ++ (x.data.toList ++ joinL ts (t.f0 == 1))) := by
          rw [hs, show out = strOf out.data.toList from (strOf_data out).symm, strOf_append, strOf_append, strOf_append]
          simp only [List.append_assoc]
        rw [e2]
theorem rjoin_fault : ∀ (l : List S38) (g : Bool) (out : ByteArray) (long : Bool), ¬ (∀ t ∈ l, writes t) → rjoinGo l g out long = (⟨#[]⟩, 73)
  | [], g, out, long, h => absurd (fun t ht => by cases ht) h
  | t :: ts, g, out, long, h => by
    rw [rjoinGo]
    by_cases h0 : (writeR t.f0 t.f1 t.f2).2 = 0
    · have h2 : ¬ ∀ u ∈ ts, writes u := fun h1 => h (fun u hu => by
        rcases List.mem_cons.1 hu with rfl | hu
        · exact h0
        · exact h1 u hu)
      rw [if_pos h0]
      split
      · exact rjoin_fault ts _ _ _ h2
      · exact rjoin_fault ts _ _ _ h2
    · rw [if_neg h0]
      rcases writeR_cases t.f0 t.f1 t.f2 with h3 | h3
      · exact absurd h3 h0
      · rw [h3]
theorem join_fault2 : ∀ (l : List S38) (g : Bool) (acc : List UInt8), ¬ (∀ t ∈ l, writes t) → joinGo l g acc = ([], 73)
  | [], g, acc, h => absurd (fun t ht => by cases ht) h
  | t :: ts, g, acc, h => by
    rw [joinGo]
    by_cases h0 : (writeR t.f0 t.f1 t.f2).2 = 0
    · rw [if_pos h0]
      exact join_fault2 ts _ _ (fun h1 => h (fun u hu => by
        rcases List.mem_cons.1 hu with rfl | hu
        · exact h0
        · exact h1 u hu))
    · rw [if_neg h0]
      rcases writeR_cases t.f0 t.f1 t.f2 with h3 | h3
      · exact absurd h3 h0
      · rw [h3]
theorem rjoin_same (l : List S38) : rjoinGo l true ⟨#[]⟩ false = joinR l := by
  unfold joinR
  by_cases h : ∀ t ∈ l, writes t
  · rw [rjoin_told l true _ false h (fun _ => by show 0 ≤ _; omega), join_told l true [] h, if_neg (by decide), List.nil_append]
    have e : (⟨#[]⟩ : ByteArray).size + (joinL l true).length = (joinL l true).length := Nat.zero_add _
    have e2 : (⟨#[]⟩ : ByteArray) ++ strOf (joinL l true) = strOf (joinL l true) := by
      show strOf [] ++ _ = _
      rw [strOf_append, List.nil_append]
    rw [e, e2]
    by_cases hl : (joinL l true).length ≤ 1048576
    · rw [if_pos hl, if_pos hl]
    · rw [if_neg hl, if_neg hl]
      rfl
  · rw [rjoin_fault l _ _ _ h, join_fault2 l _ _ h]
    rfl
theorem rj_fault {t : S38} {ts : List S38} {g long : Bool} {out x : ByteArray} {f : Int} (hw : writeR t.f0 t.f1 t.f2 = (x, f)) (hf : (f != 0) = true) : rjoinGo (t :: ts) g out long = (⟨#[]⟩, f) := by
  rw [rjoinGo, hw, if_neg (by simpa using hf)]
theorem rj_full {t : S38} {ts : List S38} {g long : Bool} {out x s : ByteArray} {f : Int} (hw : writeR t.f0 t.f1 t.f2 = (x, f)) (hf : (f != 0) = false) (hs : spc (g || t.f0 == 2) x = s) (hl : (long || decide (((out.size : Nat) : Int) > 1048576 - ((s.size : Nat) : Int))) = true) : rjoinGo (t :: ts) g out long = rjoinGo ts (t.f0 == 1) out true := by
  rw [rjoinGo, hw, if_pos (by simpa using hf), hs, if_pos hl]
theorem rj_put {t : S38} {ts : List S38} {g : Bool} {out x s : ByteArray} {f : Int} (hw : writeR t.f0 t.f1 t.f2 = (x, f)) (hf : (f != 0) = false) (hs : spc (g || t.f0 == 2) x = s) (hl : ¬ ((out.size : Nat) : Int) > 1048576 - ((s.size : Nat) : Int)) : rjoinGo (t :: ts) g out false = rjoinGo ts (t.f0 == 1) (out ++ s) false := by
  rw [rjoinGo, hw, if_pos (by simpa using hf), hs, Bool.false_or, decide_eq_false hl, if_neg (by decide)]
set_option maxHeartbeats 4000000 in
set_option maxRecDepth 100000 in
theorem rjoin_tells (A0 : Option Addr) (c0 : Nat) (l0 : List S38) (w : World) (hr0 : Kd.C k38 w A0 l0.length l0) (hc0 : l0.length ≤ c0) (hn : l0.length ≤ 1099511627776) (ht : ∀ k : Nat, k < l0.length → (rd_T38 l0 k).f1.size ≤ 1099511627776) :
    Calls Tryd.prog 20 #[.slice A0 l0.length c0] w fun e w' => e = .returned (.tuple #[.string (joinR l0).1, .int .i64 (joinR l0).2]) ∧ Below w.heap.size w w' := by
  have HR := Aside0.mk hr0
  have HT := Aside0.mk ht
  clear hr0 ht
  go_enter Tryd.func20, Tryd.ntmps20
  go_wp2
  go_loopw [4, 5, 6] (fun o lg i wr => ∃ (k : Nat) (out : ByteArray) (b : Bool), k ≤ l0.length ∧ o = .string out ∧ lg = .bool b ∧ i = .int .i64 k ∧ Aside0 (out.size ≤ 1048576) ∧ Aside0 (rjoinGo (l0.drop k) (glue l0 k) out b = joinR l0) ∧ Aside0 (Below w.heap.size w wr)) (fun _ _ i _ => l0.length - (intOf i).toNat)
  case atStart => exact ⟨0, ⟨#[]⟩, false, by omega, rfl, rfl, by go_num, ⟨by show 0 ≤ _; omega⟩, ⟨rjoin_same l0⟩, ⟨Below.refl _ _⟩⟩
  case round =>
    obtain ⟨k, out, b, hk, rfl, rfl, rfl, HL, HQ, HB⟩ := hrel
    by_cases hlt : k < l0.length
    · obtain ⟨ad, rfl, e0, e1, e2, e3, e4⟩ := at_T38 (Kd.C_below HR.out HB.out) k (by omega) (by omega)
      simp only [Int.toNat_natCast] at e0 e1 e2 e3 e4
      have HTk := Aside0.mk (HT.out k hlt)
      have HD := Aside0.mk (drop_at hlt)
      obtain ⟨t, htk⟩ : ∃ t, t = rd_T38 l0 k := ⟨_, rfl⟩
      have HTK := Aside0.mk htk.symm
      have HG := Aside0.mk (glue_next l0 k)
      rw [← htk] at e0 e1 e2 e3 e4 HTk HD HG
      clear htk
      go_wp2_with fail
      refine (rwrite_tells t.f0 t.f1 t.f2 t.f3 t.f4 HTk.out _).mono ?_
      rintro e w1 ⟨rfl, hb1⟩
      have hxs := writeR_size t.f0 t.f1 t.f2
      obtain ⟨x, f, hwx⟩ : ∃ x f, writeR t.f0 t.f1 t.f2 = (x, f) := ⟨_, _, rfl⟩
      rw [hwx] at hxs ⊢
      have HW := Aside0.mk hwx
      have hxs : x.size ≤ 1048576 := hxs
      have HBw1 : Aside0 (Below w.heap.size w w1) := ⟨below_then HB.out HB.out.size hb1⟩
      clear hwx hb1 e1 e2 e3 e4
      cases hf : (f != 0) with
      | true =>
        have HE : Aside0 (joinR l0 = (⟨#[]⟩, f)) := ⟨by rw [← HQ.out, HD.out, rj_fault HW.out hf]⟩
        go_wp2
        go_ret2
        rw [HE.out]
        exact ⟨rfl, HBw1.out⟩
      | false =>
        -- the blank ahead of the text: cut around it
        go_upto_region 9 with (fail)
        go_cut [44] (fun v44 wc => v44 = .bool (!(glue l0 k || t.f0 == 2)) ∧ wc = w1)
        case first =>
          by_cases hk0 : k = 0
          · subst hk0
            have hg : decide ((0 : Int) < ((0 : Nat) : Int)) = false := rfl
            have HA : Aside0 ((!(glue l0 0 || t.f0 == 2)) = false) := ⟨by simp [glue]⟩
            go_wp2
            go_meet
            case rel => rw [HA.out]; exact ⟨rfl, rfl⟩
          · have hg : decide ((0 : Int) < (k : Int)) = true := decide_eq_true (by omega)
            have hwr := wrap_in ((k : Int) - 1) (by omega) (by omega)
            obtain ⟨ad', had, p0, p1, p2, p3, p4⟩ := at_T38 (Kd.C_below HR.out HBw1.out) ((k : Int) - 1) (by omega) (by omega)
            injection had with had
            subst had
            obtain ⟨ad'', had, e0, e1, e2, e3, e4⟩ := at_T38 (Kd.C_below HR.out HBw1.out) k (by omega) (by omega)
            injection had with had
            subst had
            simp only [Int.toNat_natCast] at e0
            rw [HTK.out] at e0
            clear p1 p2 p3 p4 e1 e2 e3 e4
            have hkn : ((k : Int) - 1).toNat = k - 1 := by omega
            rw [hkn] at p0
            clear hkn
            have HGl : Aside0 (glue l0 k = ((rd_T38 l0 ((k : Int) - 1)).f0 == 1)) := ⟨by unfold glue; rw [beq_eq_false_iff_ne.2 hk0]; rfl⟩
            obtain ⟨p, hp⟩ : ∃ p, p = (rd_T38 l0 ((k : Int) - 1)).f0 := ⟨_, rfl⟩
            rw [← hp] at p0 HGl
            clear hp
            cases hp1 : (p != 1) with
            | false =>
              have HA : Aside0 ((!(glue l0 k || t.f0 == 2)) = false) := ⟨by rw [HGl.out]; simp at hp1 ⊢; intro h; exact absurd hp1 h⟩
              go_wp2
              go_meet
              case rel => rw [HA.out]; exact ⟨rfl, rfl⟩
            | true =>
              cases ht2 : (t.f0 != 2) with
              | false =>
                have HA : Aside0 ((!(glue l0 k || t.f0 == 2)) = false) := ⟨by rw [HGl.out]; simp at ht2 ⊢; intro _; exact ht2⟩
                go_wp2
                go_meet
                case rel => rw [HA.out]; exact ⟨rfl, rfl⟩
              | true =>
                have HA : Aside0 ((!(glue l0 k || t.f0 == 2)) = true) := ⟨by rw [HGl.out]; simp at hp1 ht2 ⊢; exact ⟨hp1, ht2⟩⟩
                go_wp2
                go_meet
                case rel => rw [HA.out]; exact ⟨rfl, rfl⟩
        case rest =>
         obtain ⟨rfl, rfl⟩ := hcut
         go_upto_if 44 with (fail)
         go_cut [7] (fun v7 wd => v7 = .string (spc (glue l0 k || t.f0 == 2) x) ∧ wd = wc)
         case first =>
          cases hgl : (glue l0 k || t.f0 == 2) with
          | true =>
            go_wp2
            go_meet
            case rel => exact ⟨by rw [hgl]; rfl, rfl⟩
          | false =>
            go_wp2
            go_meet
            case rel => exact ⟨by rw [hgl]; rfl, rfl⟩
         case rest =>
          obtain ⟨rfl, rfl⟩ := hcut
          obtain ⟨s, hs⟩ : ∃ s, s = spc (glue l0 k || t.f0 == 2) x := ⟨_, rfl⟩
          have hss : s.size ≤ 1048577 := by
            rw [hs]
            unfold spc
            split
            · omega
            · rw [ByteArray.size_append]
              show 1 + _ ≤ _
              omega
          rw [← hs]
          have HS := Aside0.mk hs.symm
          clear hs
          have hls := HL.out
          have hwr2 := wrap_in (1048576 - ((s.size : Nat) : Int)) (by omega) (by omega)
          cases b with
          | true =>
            have HE := Aside0.mk (rj_full (ts := l0.drop (k + 1)) (g := glue l0 k) (long := true) (out := out) HW.out hf HS.out (by simp))
            go_wp2
            go_roundw
            case rel => exact ⟨k + 1, out, true, by omega, rfl, rfl, by go_num, HL, ⟨by rw [HG.out, ← HE.out, ← HD.out]; exact HQ.out⟩, HBw1⟩
            case measure => simp [intOf]; omega
          | false =>
            by_cases hle : ((out.size : Nat) : Int) > 1048576 - ((s.size : Nat) : Int)
            · have hg2 : decide (1048576 - ((s.size : Nat) : Int) < ((out.size : Nat) : Int)) = true := decide_eq_true hle
              have HE := Aside0.mk (rj_full (ts := l0.drop (k + 1)) (g := glue l0 k) (long := false) (out := out) HW.out hf HS.out (by rw [decide_eq_true hle]; rfl))
              go_wp2
              go_roundw
              case rel => exact ⟨k + 1, out, true, by omega, rfl, rfl, by go_num, HL, ⟨by rw [HG.out, ← HE.out, ← HD.out]; exact HQ.out⟩, HBw1⟩
              case measure => simp [intOf]; omega
            · have hg2 : decide (1048576 - ((s.size : Nat) : Int) < ((out.size : Nat) : Int)) = false := decide_eq_false hle
              have HE := Aside0.mk (rj_put (ts := l0.drop (k + 1)) (g := glue l0 k) (out := out) HW.out hf HS.out hle)
              have HL9 : Aside0 ((out ++ s).size ≤ 1048576) := ⟨by rw [ByteArray.size_append]; omega⟩
              go_wp2
              go_roundw
              case rel => exact ⟨k + 1, out ++ s, false, by omega, rfl, rfl, by go_num, HL9, ⟨by rw [HG.out, ← HE.out, ← HD.out]; exact HQ.out⟩, HBw1⟩
              case measure => simp [intOf]; omega
    · obtain rfl : k = l0.length := by omega
      have HQ2 : Aside0 (rjoinGo [] (glue l0 l0.length) out b = joinR l0) := ⟨by have := HQ.out; rw [List.drop_length] at this; exact this⟩
      cases b with
      | true =>
        have HE : Aside0 (joinR l0 = (⟨#[]⟩, 2)) := ⟨by rw [← HQ2.out, rjoinGo, if_pos rfl]⟩
        go_wp2
        go_ret2
        rw [HE.out]
        exact ⟨rfl, HB.out⟩
      | false =>
        have HE : Aside0 (joinR l0 = (out, 0)) := ⟨by rw [← HQ2.out, rjoinGo, if_neg (by decide)]⟩
        go_wp2
        go_ret2
        rw [HE.out]
        exact ⟨rfl, HB.out⟩
def tribunalref06_Join.f (l0 : List (S38)) : Option (ByteArray × Int) := if l0.length ≤ 1099511627776 ∧ l0.all (fun t => decide (t.f1.size ≤ 1099511627776)) = true then some (joinR l0) else none
theorem tribunalref06_Join.calls (A0 : Option Addr) (c0 : Nat) (l0 : List (S38)) (r1 : ByteArray) (r2 : Int) (w : World) (hr0 : Kd.C k38 w A0 l0.length l0) (hc0 : l0.length ≤ c0) (h : tribunalref06_Join.f l0 = some (r1, r2)) :
    Calls Tryd.prog 20 #[.slice A0 l0.length c0] w fun e w' => e = .returned (.tuple #[.string r1, .int .i64 r2]) ∧ Below w.heap.size w w' := by
  unfold tribunalref06_Join.f at h
  split at h
  · rename_i hs
    injection h with h
    have := rjoin_tells A0 c0 l0 w hr0 hc0 hs.1 (fun k hk => by
      have h2 := List.all_eq_true.1 hs.2 (l0[k]) (List.getElem_mem hk)
      unfold rd_T38
      simp only [Int.toNat_natCast, List.getD_eq_getElem?_getD, List.getElem?_eq_getElem hk, Option.getD_some]
      exact of_decide_eq_true h2)
    rw [h] at this
    exact this
  · cases h
end
end Go.Proofs.YthklnopfgoekeaaDoor.X
