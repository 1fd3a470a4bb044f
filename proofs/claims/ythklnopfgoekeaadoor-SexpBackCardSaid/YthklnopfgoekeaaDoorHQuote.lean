import Derived.Test.YthklnopfgoekeaaDoorHBars
import Derived.Test.YthklnopfgoekeaaDoorShelf
import Derived.Deep.RegionWith
namespace Go.Proofs.YthklnopfgoekeaaDoor.X
open Go.RowKit Go.Proofs.YthklnopfgoekeaaDoorW.PrintWords Go.Proofs.YthklnopfgoekeaaDoorW.PrintLast Go.Proofs.YthklnopfgoekeaaDoorW.PrintMore
set_option linter.unusedVariables false

def txt (acc : List UInt8) (t : ByteArray) : List UInt8 := acc ++ t.data.toList
def strOf (l : List UInt8) : ByteArray := ⟨l.toArray⟩
theorem txt_length (acc : List UInt8) (t : ByteArray) : (txt acc t).length = acc.length + t.size := by simp [txt]
/-- A text between quotes, from place i on; acc: what has been read. -/
def quoteGo (s : ByteArray) : Nat → Nat → List UInt8 → Option (List UInt8 × Nat)
  | 0, _, _ => none
  | d + 1, i, acc =>
    if i + runN quoteB s i < s.size ∧ bt s ((i + runN quoteB s i : Nat) : Int) = 34 then
      if i + runN quoteB s i + 1 < s.size ∧ bt s ((i + runN quoteB s i + 1 : Nat) : Int) = 34 then quoteGo s d (i + runN quoteB s i + 2) (txt acc (s.extract i (i + runN quoteB s i)) ++ [34])
      else some (txt acc (s.extract i (i + runN quoteB s i)), i + runN quoteB s i + 1)
    else none
def quotesR (s : ByteArray) (x : Nat) : Rd := match quoteGo s (s.size + 1) (x + 1) [] with
  | none => ⟨61, none, 0⟩
  | some (l, j) => ⟨0, some (7, strOf l, false), j - x⟩
theorem cells_join (acc : List UInt8) (t : ByteArray) : Lib.byteCells acc ++ Lib.strCells t = Lib.byteCells (txt acc t) := by
  simp [Lib.byteCells, Lib.strCells, txt]
theorem builder_below {B b : Nat} {bs : List Value} {w w' : World} (h : Lib.IsBuilder 76 5 B b bs w) (hb : Below w.heap.size w w') : Lib.IsBuilder 76 5 B b bs w' := by
  rcases h with ⟨h1, v, h2, h3, h4⟩ | ⟨h1, v, h2, h3, h4⟩
  · exact .inl ⟨h1, v, blk_below h2 hb, pw_own_below h3 hb, h4⟩
  · exact .inr ⟨h1, v, blk_below h2 hb, pw_own_below h3 hb, h4⟩
theorem builder_fresh (w : World) : Lib.IsBuilder 76 5 w.heap.size w.heap.size (Lib.byteCells []) (w.alloc (.cells #[.pointer none, .slice none 0 0] 76)) :=
  .inl ⟨Nat.le_refl _, .slice none 0 0, blk_new w _, own_nil _ _ _ _, by simp [Value.ownBlock]⟩
theorem keepB {B g : Nat} {s : ByteArray} {x l c : Int} {v : Value} {w w' : World} (h : Cells g s x l c v w) (hg : g < B) (hb : Below B w w') : Cells g s x l c v w' := ⟨(hb.block g hg).trans h.b⟩
theorem cells_snoc (acc : List UInt8) : Lib.byteCells acc ++ [Value.int .u8 34] = Lib.byteCells (acc ++ [34]) := by
  simp [Lib.byteCells]
theorem string_calls (B b : Nat) (l : List UInt8) (w : World) (h : Lib.IsBuilder 76 5 B b (Lib.byteCells l) w) (hBw : B ≤ w.heap.size) :
    Calls Tryd.prog 37 #[.pointer (some ⟨b, 0, none⟩)] w fun e w' => e = .returned (.string (strOf l)) ∧ Below B w w' := Tryd.Builder_String_any B b l w h hBw
theorem quotes_none {s : ByteArray} {x : Nat} (h : quoteGo s (s.size + 1) (x + 1) [] = none) : quotesR s x = ⟨61, none, 0⟩ := by unfold quotesR; rw [h]
theorem quotes_some {s : ByteArray} {x : Nat} {l : List UInt8} {j : Nat} (h : quoteGo s (s.size + 1) (x + 1) [] = some (l, j)) : quotesR s x = ⟨0, some (7, strOf l, false), j - x⟩ := by unfold quotesR; rw [h]
theorem add3 (k n : Nat) : ((k + n + 1 : Nat) : Int) = (k : Int) + n + 1 := by omega
theorem quoteGo_bad {s : ByteArray} {k n d : Nat} {acc : List UInt8} (hd : s.size - k < d) (hn : n = runN quoteB s k) (hin : k + n < s.size) (h34 : (bt s ((k : Int) + n) != 34) = true) : quoteGo s d k acc = none := by
  obtain ⟨d', rfl⟩ : ∃ d', d = d' + 1 := ⟨d - 1, by omega⟩
  rw [quoteGo, ← hn, Int.natCast_add]
  rw [if_neg (fun h => by simp [h.2] at h34)]
theorem quoteGo_out {s : ByteArray} {k n d : Nat} {acc : List UInt8} (hd : s.size - k < d) (hn : n = runN quoteB s k) (hin : ¬ k + n < s.size) : quoteGo s d k acc = none := by
  obtain ⟨d', rfl⟩ : ∃ d', d = d' + 1 := ⟨d - 1, by omega⟩
  rw [quoteGo, ← hn, if_neg (fun h => hin h.1)]
theorem quoteGo_stop {s : ByteArray} {k n d : Nat} {acc : List UInt8} (hd : s.size - k < d) (hn : n = runN quoteB s k) (hin : k + n < s.size) (h34 : (bt s ((k : Int) + n) != 34) = false) (hno : (¬ k + n + 1 < s.size) ∨ (bt s ((k : Int) + n + 1) != 34) = true) : quoteGo s d k acc = some (txt acc (s.extract k (k + n)), k + n + 1) := by
  obtain ⟨d', rfl⟩ : ∃ d', d = d' + 1 := ⟨d - 1, by omega⟩
  rw [quoteGo, ← hn, if_pos ⟨hin, by rw [Int.natCast_add]; simpa using h34⟩]
  rw [if_neg (fun h => by rcases hno with h' | h'; exact h' h.1; rw [← add3, bne_iff_ne] at h'; exact h' h.2)]
theorem quoteGo_more {s : ByteArray} {k n d : Nat} {acc : List UInt8} (hn : n = runN quoteB s k) (hin : k + n < s.size) (h34 : (bt s ((k : Int) + n) != 34) = false) (hin2 : k + n + 1 < s.size) (h342 : (bt s ((k : Int) + n + 1) != 34) = false) : quoteGo s (d + 1) k acc = quoteGo s d (k + n + 2) (txt acc (s.extract k (k + n)) ++ [34]) := by
  rw [quoteGo, ← hn, if_pos ⟨hin, by rw [Int.natCast_add]; simpa using h34⟩]
  rw [if_pos ⟨hin2, by rw [add3]; simpa using h342⟩]
theorem builder_drew {B b : Nat} {bs : List Value} {w : World} (h : Lib.IsBuilder 76 5 B b bs w) : Lib.IsBuilder 76 5 B b bs w.drew := h
theorem size_drew {B : Nat} {w : World} (h : B ≤ w.heap.size) : B ≤ w.drew.heap.size := h
theorem below_undrew {B : Nat} {w w' : World} (h : Below B w.drew w') : Below B w w' := ⟨h.os, h.tape, h.output, h.size, h.block⟩
set_option maxHeartbeats 1000000 in
set_option maxRecDepth 100000 in
theorem quotes_reads : ReadsAs 51 quotesR 6 := by
  intro B g s x l c ts w h hts hb hx hcls
  have H := Aside0.mk h
  have HB := Aside0.mk hb
  have hs := hb.size
  obtain ⟨h1, h2, v, hC, hR⟩ := h
  have hgl := hC.lt
  have hc1 := hC.c1
  have HC := Aside0.mk hC
  clear hC hR hb hcls
  go_enter Tryd.func51, Tryd.ntmps51
  go_wp2
  go_loopw [4] (fun i wr => ∃ (k d : Nat) (acc : List UInt8), k ≤ s.size ∧ x < k ∧ i = .int .i64 k ∧ Aside0 (acc.length ≤ k) ∧ Aside0 (s.size - k < d) ∧ Aside0 (quoteGo s d k acc = quoteGo s (s.size + 1) (x + 1) []) ∧ Aside0 (Below w.heap.size w wr) ∧ Aside0 (Lib.IsBuilder 76 5 w.heap.size w.heap.size (Lib.byteCells acc) wr)) (fun i _ => s.size - (intOf i).toNat)
  case atStart => exact ⟨x + 1, s.size + 1, [], by omega, by omega, by go_num, ⟨by simp⟩, ⟨by omega⟩, ⟨rfl⟩, ⟨(Below.refl _ _).alloc (Nat.le_refl _) _⟩, ⟨builder_fresh w⟩⟩
  case round =>
    obtain ⟨k, d, acc, hk, hxk, rfl, HL, HD, HQ, HBl, HI⟩ := hrel
    have hd0 := (keepB HC.out hgl HBl.out).c0
    have hwsz := HBl.out.size
    go_wp2_with fail
    refine (run_quote g s k hk hs wr hd0).mono ?_
    rintro e w1 ⟨rfl, hb1⟩
    have hle := runN_le quoteB s k hk
    obtain ⟨n, hn⟩ : ∃ n, n = runN quoteB s k := ⟨_, rfl⟩
    rw [← hn] at hle ⊢
    have HN := Aside0.mk hn
    have HB1 : Aside0 (Below w.heap.size w w1) := ⟨below_then HBl.out hwsz hb1⟩
    have HI1 := Aside0.mk (builder_below HI.out hb1)
    have hd0' := (keepB HC.out hgl HB1.out).c0
    have hwsz1 := HB1.out.size
    clear hn hb1 hd0 hwsz
    have hsl := slice_str s (k : Int) ((k : Int) + n) k (k + n) rfl (by omega) (by omega) (by omega)
    go_wp2_with fail
    refine (Tryd.Builder_WriteString w.heap.size w.heap.size (Lib.byteCells acc) (s.extract k (k + n)) w1 HI1.out (by rw [Lib.byteCells_length, ByteArray.size_extract]; have := HL.out; omega) hwsz1).mono ?_
    rintro e w2 ⟨rfl, hI2, hb2⟩
    rw [cells_join] at hI2
    have HB2 : Aside0 (Below w.heap.size w w2) := ⟨HB1.out.trans hb2⟩
    have HI2 : Aside0 (Lib.IsBuilder 76 5 w.heap.size w.heap.size (Lib.byteCells (txt acc (s.extract k (k + n)))) w2) := ⟨.inr hI2⟩
    have hd2 := (keepB HC.out hgl HB2.out).c0
    have hwsz2 := HB2.out.size
    clear hI2 hb2 hd0' hwsz1 hsl
    have hd21 := (keepB HC.out hgl HB2.out).c1
    by_cases hin : k + n < s.size
    · have hg : decide ((s.size : Int) ≤ (k : Int) + n) = false := decide_eq_false (by omega)
      have hix := index_str s ((k : Int) + n) (k + n) (by omega) hin
      cases h34 : (bt s ((k : Int) + n) != 34) with
      | true =>
        have HE : Aside0 (quotesR s x = ⟨61, none, 0⟩) := ⟨quotes_none (by rw [← HQ.out]; exact quoteGo_bad HD.out HN.out hin h34)⟩
        go_wp2
        go_ret
        rw [HE.out]
        exact ⟨rfl, After.stay H.out HB2.out _⟩
      | false =>
        by_cases hin2 : k + n + 1 < s.size
        · have hg2 : decide ((s.size : Int) ≤ (k : Int) + n + 1) = false := decide_eq_false (by omega)
          have hix2 := index_str s ((k : Int) + n + 1) (k + n + 1) (by omega) hin2
          cases h342 : (bt s ((k : Int) + n + 1) != 34) with
          | true =>
            have HE : Aside0 (quotesR s x = ⟨0, some (7, (strOf (txt acc (s.extract k (k + n)))), false), k + n + 1 - x⟩) := ⟨quotes_some (by rw [← HQ.out]; exact quoteGo_stop HD.out HN.out hin h34 (.inr h342))⟩
            have hwr := wrap_in ((k : Int) + n + 1 - x) (by omega) (by omega)
            go_wp2
            go_region_with (first | (go_at_call 37; (with_reducible refine (string_calls w.heap.size w.heap.size (txt acc (s.extract k (k + n))) _ (builder_drew HI2.out) (size_drew hwsz2)).mono ?_); rintro e w3 ⟨rfl, hb3⟩; have HB3 := Aside0.mk (HB2.out.trans (below_undrew hb3)); have hd31 := (keepB HC.out hgl HB3.out).c1; clear hb3) | (go_at_call 68; (with_reducible refine (put_on B g s x l c ts 7 (strOf (txt acc (s.extract k (k + n)))) false (k + n + 1 - x) w _ H.out hts HB.out (by omega) _ (by omega) (by first | exact HB3.out | exact below_drew_any HB3.out)).mono ?_); rintro e w4 ⟨rfl, hA⟩; have HA := Aside0.mk hA; clear hA))
            all_goals
              go_wp2
              go_ret
              rw [HE.out]
              exact ⟨rfl, HA.out⟩
          | false =>
            obtain ⟨d', rfl⟩ : ∃ d', d = d' + 1 := ⟨d - 1, by have := HD.out; omega⟩
            have HQ2 := Aside0.mk (quoteGo_more HN.out hin h34 hin2 h342 (acc := acc) (d := d'))
            go_wp2_with fail
            refine (Tryd.Builder_WriteByte w.heap.size w.heap.size (Lib.byteCells (txt acc (s.extract k (k + n)))) 34 w2 HI2.out (by rw [Lib.byteCells_length, txt_length, ByteArray.size_extract]; have := HL.out; omega) hwsz2).mono ?_
            rintro e w3 ⟨rfl, hI3, hb3⟩
            have HB3 : Aside0 (Below w.heap.size w w3) := ⟨HB2.out.trans hb3⟩
            have HI3 : Aside0 (Lib.IsBuilder 76 5 w.heap.size w.heap.size (Lib.byteCells (txt acc (s.extract k (k + n)) ++ [34])) w3) := ⟨.inr (by rw [cells_snoc] at hI3; exact hI3)⟩
            have HL3 : Aside0 ((txt acc (s.extract k (k + n)) ++ [34]).length ≤ k + n + 2) := ⟨by simp only [List.length_append, List.length_cons, List.length_nil, txt_length, ByteArray.size_extract]; have := HL.out; omega⟩
            clear hI3 hb3 hix hix2 hg hg2
            go_wp2
            go_roundw
            case rel => exact ⟨k + n + 2, d', _, by omega, by omega, by go_num, HL3, ⟨by have := HD.out; omega⟩, ⟨by rw [← HQ2.out, HQ.out]⟩, HB3, HI3⟩
            case measure => simp [intOf]; omega
        · have hg2 : decide ((s.size : Int) ≤ (k : Int) + n + 1) = true := decide_eq_true (by omega)
          have HE : Aside0 (quotesR s x = ⟨0, some (7, (strOf (txt acc (s.extract k (k + n)))), false), k + n + 1 - x⟩) := ⟨quotes_some (by rw [← HQ.out]; exact quoteGo_stop HD.out HN.out hin h34 (.inl hin2))⟩
          have hwr := wrap_in ((k : Int) + n + 1 - x) (by omega) (by omega)
          go_wp2
          go_region_with (first | (go_at_call 37; (with_reducible refine (string_calls w.heap.size w.heap.size (txt acc (s.extract k (k + n))) _ (builder_drew HI2.out) (size_drew hwsz2)).mono ?_); rintro e w3 ⟨rfl, hb3⟩; have HB3 := Aside0.mk (HB2.out.trans (below_undrew hb3)); have hd31 := (keepB HC.out hgl HB3.out).c1; clear hb3) | (go_at_call 68; (with_reducible refine (put_on B g s x l c ts 7 (strOf (txt acc (s.extract k (k + n)))) false (k + n + 1 - x) w _ H.out hts HB.out (by omega) _ (by omega) (by first | exact HB3.out | exact below_drew_any HB3.out)).mono ?_); rintro e w4 ⟨rfl, hA⟩; have HA := Aside0.mk hA; clear hA))
          all_goals
            go_wp2
            go_ret
            rw [HE.out]
            exact ⟨rfl, HA.out⟩
    · have hg : decide ((s.size : Int) ≤ (k : Int) + n) = true := decide_eq_true (by omega)
      have HE : Aside0 (quotesR s x = ⟨61, none, 0⟩) := ⟨quotes_none (by rw [← HQ.out]; exact quoteGo_out HD.out HN.out hin)⟩
      go_wp2
      go_ret
      rw [HE.out]
      exact ⟨rfl, After.stay H.out HB2.out _⟩
end Go.Proofs.YthklnopfgoekeaaDoor.X
