import Derived.Test.YthklnopfgoekeaaDoorHStr
import Derived.Test.YthklnopfgoekeaaDoorX1
import Derived.Test.YthklnopfgoekeaaDoorHScan
namespace Go.Proofs.YthklnopfgoekeaaDoor.X
open Go.RowKit Go.Proofs.YthklnopfgoekeaaDoorW.PrintWords Go.Proofs.YthklnopfgoekeaaDoorW.PrintLast Go.Proofs.YthklnopfgoekeaaDoorW.PrintMore
set_option linter.unusedVariables false
attribute [local go_sem high] eqA38

def lexis_text.f (a0_0 : Int) (a0_1 : ByteArray) (a0_2 : Bool) (a0_3 : Int) (a0_4 : Int) : Option (ByteArray) := if a0_1.size ≤ 1099511627776 then some (textR a0_0 a0_1 a0_2) else none
theorem lexis_text.calls (a0_0 : Int) (a0_1 : ByteArray) (a0_2 : Bool) (a0_3 : Int) (a0_4 : Int) (r : ByteArray) (w : World) (h : lexis_text.f a0_0 a0_1 a0_2 a0_3 a0_4 = some r) :
    Calls Tryd.prog 39 #[.agg #[.int .i64 a0_0, .string a0_1, .bool a0_2, .int .i64 a0_3, .int .i64 a0_4]] w fun e w' => e = .returned (.string r) ∧ Below w.heap.size w w' := by
  unfold lexis_text.f at h
  split at h
  · rename_i hs
    injection h with h
    subst h
    exact text_tells a0_0 a0_1 a0_2 a0_3 a0_4 hs w
  · cases h
/-- Is it the token alone, at the head? -/
def aloneB (k : Int) (tx : ByteArray) (q : Bool) (r : List S38 × Int × Int × Int) : Bool := match r with
  | ([t], _, _, e) => e == 0 && (t.f0 == k && (t.f1.toList == tx.toList && (t.f2 == q && (t.f3 == 1 && t.f4 == 1))))
  | _ => false
def writeR (k : Int) (tx : ByteArray) (q : Bool) : ByteArray × Int :=
  if (textR k tx q).size ≤ 1048576 ∧ aloneB k tx q (scanAll (textR k tx q)) = true then (textR k tx q, 0) else (⟨#[]⟩, 73)
set_option maxHeartbeats 4000000 in
set_option maxRecDepth 100000 in
theorem write_tells (k : Int) (tx : ByteArray) (q : Bool) (l c : Int) (ht : tx.size ≤ 1099511627776) (w : World) :
    Calls Tryd.prog 21 #[.agg #[.int .i64 k, .string tx, .bool q, .int .i64 l, .int .i64 c]] w fun e w' => e = .returned (.tuple #[.string (writeR k tx q).1, .int .i64 (writeR k tx q).2]) ∧ Below w.heap.size w w' := by
  obtain ⟨tt, htt⟩ : ∃ tt, tt = textR k tx q := ⟨_, rfl⟩
  have HTT := Aside0.mk htt
  by_cases hlen : tt.size ≤ 1048576
  · have hg : decide (1048576 < (tt.size : Int)) = false := decide_eq_false (by omega)
    have hg2 : decide (1048576 < tt.size) = false := decide_eq_false (by omega)
    obtain ⟨r1, r2, r3, r4, hsc⟩ : ∃ r1 r2 r3 r4, scanAll tt = (r1, r2, r3, r4) := ⟨_, _, _, _, rfl⟩
    have HSC := Aside0.mk hsc
    clear htt hsc
    go_enter Tryd.func21, Tryd.ntmps21
    go_wp2_with fail
    refine (text_tells k tx q l c ht _).mono ?_
    rintro e w1 ⟨rfl, hb1⟩
    rw [← HTT.out]
    have HB1 : Aside0 (Below w.heap.size w w1) := ⟨below_then ((Below.refl _ _).alloc (Nat.le_refl _) _) (by simp) hb1⟩
    have HK1 := Aside0.mk (blk_below (blk_new w (.cells #[.int .i64 k, .string tx, .bool q, .int .i64 l, .int .i64 c] 38)) hb1)
    clear hb1
    go_wp2_with fail
    refine (lexis_Scan.calls tt r1 r2 r3 r4 _ (by unfold lexis_Scan.f; rw [HSC.out])).mono ?_
    rintro e w2 ⟨v0, rfl, hR, hb2⟩
    have HB2 : Aside0 (Below w.heap.size w w2) := ⟨below_then HB1.out HB1.out.size hb2⟩
    have hk2 := blk_below HK1.out hb2
    have hlb := blk_lt HK1.out
    have hb3 : Below w.heap.size w ((w2.setCell ⟨w.heap.size, 3, none⟩ (.int .i64 1)).setCell ⟨w.heap.size, 4, none⟩ (.int .i64 1)) := (HB2.out.setCell (Nat.le_refl _) _).setCell (Nat.le_refl _) _
    have hk3 : ((w2.setCell ⟨w.heap.size, 3, none⟩ (.int .i64 1)).setCell ⟨w.heap.size, 4, none⟩ (.int .i64 1)).heap[w.heap.size]? = some (.cells #[.int .i64 k, .string tx, .bool q, .int .i64 1, .int .i64 1] 38 (0, 0)) := blk_set (blk_set hk2 3 _) 4 _
    have hR3 : Kd.R k38 38 ((w2.setCell ⟨w.heap.size, 3, none⟩ (.int .i64 1)).setCell ⟨w.heap.size, 4, none⟩ (.int .i64 1)) w1.heap.size (fun k => True ∧ w1.heap.size ≤ k ∧ k < w2.heap.size ∧ ∃ q, q ∈ 38 :: k38.E ∧ ∃ cells, w2.heap[k]? = some (.cells cells q (0, 0))) v0 r1 :=
      Kd.R_far (Kd.R_far (Kd.R_bound hR) (fun k h => by have := h.2.1; show k ≠ w.heap.size; omega) _) (fun k h => by have := h.2.1; show k ≠ w.heap.size; omega) _
    obtain ⟨A, cp, rfl, hcp, hC⟩ := Kd.R_reads hR3
    obtain ⟨d0, d1, d2, d3, d4⟩ := box38 hk3
    have hf3 := blk_frozen hk2 3
    have hf4 := blk_frozen hk2 4
    obtain ⟨c0, c1, c2, c3, c4⟩ := box38 hk2
    have HA : Aside0 (∀ ad, A = some ad → ∃ g, ad = ⟨g, 0, none⟩) := ⟨fun ad h => by subst h; exact Kd.R_head hR3⟩
    have HC3 := Aside0.mk hC
    have HB3 := Aside0.mk hb3
    clear hR hb2 hk2 hk3 hC hR3 hb3
    obtain ⟨w3, hw3⟩ : ∃ w3, w3 = ((w2.setCell ⟨w.heap.size, 3, none⟩ (.int .i64 1)).setCell ⟨w.heap.size, 4, none⟩ (.int .i64 1)) := ⟨_, rfl⟩
    rw [← hw3] at d0 d1 d2 d3 d4 HC3 HB3
    have hf4' : (w2.setCell ⟨w.heap.size, 3, none⟩ (.int .i64 1)).frozen? ⟨w.heap.size, 4, none⟩ = false := by simpa using hf4
    go_wp2_with fail
    rw [← hw3]
    clear hw3 hf4' hf4 hf3 c0 c1 c2 c3 c4
    have HN : Aside0 (aloneB k tx q (r1, r2, r3, r4) = false → writeR k tx q = (⟨#[]⟩, 73)) := ⟨fun h => by
      unfold writeR; rw [← HTT.out, HSC.out, if_neg]; rintro ⟨_, h2⟩; rw [h] at h2; cases h2⟩
    have HY : Aside0 (aloneB k tx q (r1, r2, r3, r4) = true → writeR k tx q = (tt, 0)) := ⟨fun h => by
      unfold writeR; rw [← HTT.out, HSC.out, if_pos ⟨hlen, h⟩]⟩
    cases he : (r4 != 0) with
    | true =>
      have HE : Aside0 (writeR k tx q = (⟨#[]⟩, 73)) := ⟨HN.out (by
        unfold aloneB; split
        · rename_i h1; injection h1 with _ h1; injection h1 with _ h1; injection h1 with _ h1; subst h1; simp at he ⊢; exact fun h => absurd h he
        · rfl)⟩
      go_quiet (fail)
      go_wp2
      go_ret2
      rw [HE.out]
      exact ⟨rfl, pw_below_drewN HB3.out _⟩
    | false =>
      by_cases hl : r1.length = 1
      · obtain ⟨t, rfl⟩ : ∃ t, r1 = [t] := by
          match r1, hl with
          | [t], _ => exact ⟨t, rfl⟩
        have hlb : ((([t] : List S38).length : Nat) : Int) = 1 := rfl
        obtain ⟨ad, rfl, e0, e1, e2, e3, e4⟩ := at_T38 HC3.out 0 (by omega) (by simp)
        obtain ⟨g, rfl⟩ := HA.out _ rfl
        have hrd : rd_T38 [t] 0 = t := rfl
        rw [hrd] at e0 e1 e2 e3 e4
        have e0 : w3.cell? ⟨g, 0, none⟩ = some (.int .i64 t.f0) := e0
        have e1 : w3.cell? ⟨g, 1, none⟩ = some (.string t.f1) := e1
        have e2 : w3.cell? ⟨g, 2, none⟩ = some (.bool t.f2) := e2
        have e3 : w3.cell? ⟨g, 3, none⟩ = some (.int .i64 t.f3) := e3
        have e4 : w3.cell? ⟨g, 4, none⟩ = some (.int .i64 t.f4) := e4
        cases hq : (t.f0 == k && (t.f1.toList == tx.toList && (t.f2 == q && (t.f3 == 1 && t.f4 == 1)))) with
        | true =>
          have HE : Aside0 (writeR k tx q = (tt, 0)) := ⟨HY.out (by
            show (r4 == 0 && _) = true
            rw [hq]; simpa using he)⟩
          go_quiet (fail)
          go_wp2
          go_ret2
          rw [HE.out]
          exact ⟨rfl, pw_below_drewN HB3.out _⟩
        | false =>
          have HE : Aside0 (writeR k tx q = (⟨#[]⟩, 73)) := ⟨HN.out (by
            show (r4 == 0 && _) = false
            rw [hq]; simp)⟩
          go_quiet (fail)
          go_wp2
          go_ret2
          rw [HE.out]
          exact ⟨rfl, pw_below_drewN HB3.out _⟩
      · have hlb : ((r1.length : Int) != 1) = true := by simp; omega
        have HE : Aside0 (writeR k tx q = (⟨#[]⟩, 73)) := ⟨HN.out (by
          unfold aloneB; split
          · rename_i h1; injection h1 with h1 _; subst h1; exact absurd rfl hl
          · rfl)⟩
        go_quiet (fail)
        go_wp2
        go_ret2
        rw [HE.out]
        exact ⟨rfl, pw_below_drewN HB3.out _⟩
  · have hg : decide (1048576 < (tt.size : Int)) = true := decide_eq_true (by omega)
    have hg2 : decide (1048576 < tt.size) = true := decide_eq_true (by omega)
    have HE : Aside0 (writeR k tx q = (⟨#[]⟩, 73)) := ⟨by unfold writeR; rw [← htt, if_neg (fun h => hlen h.1)]⟩
    clear htt
    go_enter Tryd.func21, Tryd.ntmps21
    go_wp2_with fail
    refine (text_tells k tx q l c ht _).mono ?_
    rintro e w1 ⟨rfl, hb1⟩
    rw [← HTT.out]
    have HB1 : Aside0 (Below w.heap.size w w1) := ⟨below_then ((Below.refl _ _).alloc (Nat.le_refl _) _) (by simp) hb1⟩
    clear hb1
    go_wp2
    go_ret2
    rw [HE.out]
    exact ⟨rfl, HB1.out⟩
def lexis_Write.f (a0_0 : Int) (a0_1 : ByteArray) (a0_2 : Bool) (a0_3 : Int) (a0_4 : Int) : Option (ByteArray × Int) := if a0_1.size ≤ 1099511627776 then some (writeR a0_0 a0_1 a0_2) else none
theorem lexis_Write.calls (a0_0 : Int) (a0_1 : ByteArray) (a0_2 : Bool) (a0_3 : Int) (a0_4 : Int) (r1 : ByteArray) (r2 : Int) (w : World) (h : lexis_Write.f a0_0 a0_1 a0_2 a0_3 a0_4 = some (r1, r2)) :
    Calls Tryd.prog 21 #[.agg #[.int .i64 a0_0, .string a0_1, .bool a0_2, .int .i64 a0_3, .int .i64 a0_4]] w fun e w' => e = .returned (.tuple #[.string r1, .int .i64 r2]) ∧ Below w.heap.size w w' := by
  unfold lexis_Write.f at h
  split at h
  · rename_i hs
    injection h with h
    have := write_tells a0_0 a0_1 a0_2 a0_3 a0_4 hs w
    rw [h] at this
    exact this
  · cases h
end Go.Proofs.YthklnopfgoekeaaDoor.X
