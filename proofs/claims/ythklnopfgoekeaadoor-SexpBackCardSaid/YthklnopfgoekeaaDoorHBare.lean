import Derived.Test.YthklnopfgoekeaaDoorHPut
import Derived.Test.YthklnopfgoekeaaDoorHRun
import Derived.StillTailTactics
namespace Go.Proofs.YthklnopfgoekeaaDoor.X
open Go.RowKit Go.Proofs.YthklnopfgoekeaaDoorW.PrintWords Go.Proofs.YthklnopfgoekeaaDoorW.PrintLast Go.Proofs.YthklnopfgoekeaaDoorW.PrintMore
set_option linter.unusedVariables false

def endC (c : Int) : Bool := c == 1 || c == 3 || c == 2 || c == 6 || c == 7
/-- May a bare token end at place y? -/
def endB (s : ByteArray) (y : Nat) : Bool := decide (s.size ≤ y) || endC (classI (bt s y))
set_option maxHeartbeats 2000000 in
theorem ended_calls (g : Nat) (s : ByteArray) (y : Nat) (hs : s.size ≤ 1048576) (w : World) (h : w.cell? ⟨g, 0, none⟩ = some (.string s)) :
    Calls Tryd.prog 87 #[.pointer (some ⟨g, 0, none⟩), .int .i64 y] w fun e w' => e = .returned (.bool (endB s y)) ∧ Below w.heap.size w w' := by
  have H := Aside0.mk h
  have hc0 := h
  clear h
  by_cases hlt : y < s.size
  · have HX := Aside0.mk (bt_nat s y hlt)
    have HE : Aside0 (endB s y = endC (classI (bt s y))) := ⟨by unfold endB; rw [decide_eq_false (by omega), Bool.false_or]⟩
    go_enter Tryd.func87, Tryd.ntmps87
    go_wp2_with fail
    rw [HX.out]
    refine (class_calls _ _).mono ?_
    rintro e w1 ⟨rfl, hb1⟩
    have HB1 := Aside0.mk hb1
    clear hb1
    obtain ⟨c, hc⟩ : ∃ c, c = classI (bt s y) := ⟨_, rfl⟩
    rw [← hc]
    have HC := Aside0.mk hc
    clear hc
    by_cases h1 : (c == 1) = true
    · go_wp2
      go_ret
      exact ⟨by rw [HE.out]; rw [← HC.out]; simp [endC, h1], HB1.out⟩
    replace h1 := Bool.eq_false_iff.mpr h1
    by_cases h2 : (c == 3) = true
    · go_wp2
      go_ret
      exact ⟨by rw [HE.out]; rw [← HC.out]; simp [endC, h1, h2], HB1.out⟩
    replace h2 := Bool.eq_false_iff.mpr h2
    by_cases h3 : (c == 2) = true
    · go_wp2
      go_ret
      exact ⟨by rw [HE.out]; rw [← HC.out]; simp [endC, h1, h2, h3], HB1.out⟩
    replace h3 := Bool.eq_false_iff.mpr h3
    by_cases h4 : (c == 6) = true
    · go_wp2
      go_ret
      exact ⟨by rw [HE.out]; rw [← HC.out]; simp [endC, h1, h2, h3, h4], HB1.out⟩
    replace h4 := Bool.eq_false_iff.mpr h4
    by_cases h5 : (c == 7) = true
    · go_wp2
      go_ret
      exact ⟨by rw [HE.out]; rw [← HC.out]; simp [endC, h1, h2, h3, h4, h5], HB1.out⟩
    replace h5 := Bool.eq_false_iff.mpr h5
    go_wp2
    go_ret
    exact ⟨by rw [HE.out]; rw [← HC.out]; simp [endC, h1, h2, h3, h4, h5], HB1.out⟩
  · have hge : s.size ≤ y := by omega
    go_enter Tryd.func87, Tryd.ntmps87
    go_wp2
    go_ret
    exact ⟨by unfold endB; rw [decide_eq_true hge]; rfl, Below.refl _ _⟩

/-- What a reader of one piece tells: an error, a token, how many bytes. -/
structure Rd where
  err : Int
  tok : Option (Int × ByteArray × Bool)
  n : Nat
def Rd.ts (r : Rd) (l c : Int) (ts : List S38) : List S38 := match r.tok with
  | none => ts
  | some (k, t, q) => ts ++ [⟨k, t, q, l, c⟩]
/-- The scanner has gone on as r says. -/
structure After (B g : Nat) (s : ByteArray) (x : Nat) (l c : Int) (ts : List S38) (r : Rd) (w w' : World) : Prop where
  fr : Fr B g w w'
  sc : Sc B g s ((x + r.n : Nat) : Int) (lc s x l c r.n).1 (lc s x l c r.n).2 (r.ts l c ts) w'
theorem After.stay {B g : Nat} {s : ByteArray} {x : Nat} {l c : Int} {ts : List S38} {w w' : World} (h : Sc B g s x l c ts w) (hb : Below w.heap.size w w') (e : Int) : After B g s x l c ts ⟨e, none, 0⟩ w w' := by
  refine ⟨Fr.of_below (hb.mono h.le), ?_⟩
  obtain ⟨h1, h2, v, h3, h4⟩ := h
  exact ⟨h1, Nat.le_trans h2 hb.size, v, h3.below hb, Kd.R_below h4 hb⟩
theorem box38 {w : World} {b : Nat} {v0 v1 v2 v3 v4 : Value} (h : w.heap[b]? = some (.cells #[v0, v1, v2, v3, v4] 38 (0, 0))) : w.cell? ⟨b, 0, none⟩ = some v0 ∧ w.cell? ⟨b, 1, none⟩ = some v1 ∧ w.cell? ⟨b, 2, none⟩ = some v2 ∧ w.cell? ⟨b, 3, none⟩ = some v3 ∧ w.cell? ⟨b, 4, none⟩ = some v4 := by
  refine ⟨?_, ?_, ?_, ?_, ?_⟩ <;> (rw [blk_cell h]; rfl)
def bareR (s : ByteArray) (x : Nat) (k : Int) (tx : ByteArray) (q : Bool) (n : Nat) (ok : Bool) : Rd := if (ok && endB s (x + n)) = true then ⟨0, some (k, tx, q), n⟩ else ⟨62, none, 0⟩
set_option maxHeartbeats 2000000 in
theorem bare_calls (B g : Nat) (s : ByteArray) (x : Nat) (l c : Int) (ts : List S38) (k0 : Int) (tx : ByteArray) (q0 : Bool) (n : Nat) (ok : Bool) (w : World) (h : Sc B g s x l c ts w) (hts : ts.length ≤ x) (hb : Nb s x l c) (hn : x + n ≤ s.size) :
    Calls Tryd.prog 69 #[.pointer (some ⟨g, 0, none⟩), .agg #[.int .i64 k0, .string tx, .bool q0, .int .i64 0, .int .i64 0], .int .i64 n, .bool ok] w fun e w' => e = .returned (.int .i64 (bareR s x k0 tx q0 n ok).err) ∧ After B g s x l c ts (bareR s x k0 tx q0 n ok) w w' := by
  have H := Aside0.mk h
  have HB := Aside0.mk hb
  have hs := hb.size
  obtain ⟨h1, h2, v, hC, hR⟩ := h
  have hgl := hC.lt
  have hc1 := hC.c1
  have HC := Aside0.mk hC
  have HR := Aside0.mk hR
  clear hC hR hb
  cases ok with
  | false =>
    have e : bareR s x k0 tx q0 n false = ⟨62, none, 0⟩ := rfl
    rw [e]
    have HE := Aside0.mk e
    clear e
    go_enter Tryd.func69, Tryd.ntmps69
    go_wp2
    go_ret
    exact ⟨rfl, After.stay H.out ((Below.refl _ _).alloc (Nat.le_refl _) _) _⟩
  | true =>
    by_cases he : endB s (x + n) = true
    · have e : bareR s x k0 tx q0 n true = ⟨0, some (k0, tx, q0), n⟩ := by unfold bareR; rw [he]; rfl
      rw [e]
      have HE := Aside0.mk he
      clear e he
      go_enter Tryd.func69, Tryd.ntmps69
      go_wp2_with fail
      have hcall := ended_calls g s (x + n) hs (w.alloc (.cells #[.int .i64 k0, .string tx, .bool q0, .int .i64 0, .int .i64 0] 38)) (by rw [World.cell?_alloc_past _ _ _ hgl]; exact HC.out.c0)
      rw [Int.natCast_add, HE.out] at hcall
      refine hcall.mono ?_
      clear hcall
      rintro e w1 ⟨rfl, hb1⟩
      have hbk := blk_below (blk_new w (.cells #[.int .i64 k0, .string tx, .bool q0, .int .i64 0, .int .i64 0] 38)) hb1
      obtain ⟨d0, d1, d2, d3, d4⟩ := box38 hbk
      have HB1 := Aside0.mk hb1
      clear hb1 hbk
      go_wp2_with fail
      have hW : Below w.heap.size w w1 := below_then ((Below.refl _ _).alloc (Nat.le_refl _) _) (by simp) HB1.out
      refine (put_calls B g s x l c v ts k0 tx q0 0 0 n w1 h1 (Nat.le_trans h2 hW.size) (HC.out.below hW) (Kd.R_below HR.out hW) (by have := HB.out.xs; omega) HB.out (by omega)).mono ?_
      rintro e w2 ⟨rfl, hF, hS⟩
      have HF := Aside0.mk hF
      have HS := Aside0.mk hS
      clear hF hS
      go_wp2
      go_ret
      refine ⟨rfl, ⟨(Fr.of_below (hW.mono h2)).trans HF.out, ?_⟩⟩
      have := HS.out
      rw [← Int.natCast_add] at this
      exact this
    · replace he := Bool.eq_false_iff.mpr he
      have e : bareR s x k0 tx q0 n true = ⟨62, none, 0⟩ := by unfold bareR; rw [he]; rfl
      rw [e]
      have HE := Aside0.mk he
      clear e he
      go_enter Tryd.func69, Tryd.ntmps69
      go_wp2_with fail
      have hcall := ended_calls g s (x + n) hs (w.alloc (.cells #[.int .i64 k0, .string tx, .bool q0, .int .i64 0, .int .i64 0] 38)) (by rw [World.cell?_alloc_past _ _ _ hgl]; exact HC.out.c0)
      rw [Int.natCast_add, HE.out] at hcall
      refine hcall.mono ?_
      clear hcall
      rintro e w1 ⟨rfl, hb1⟩
      have HB1 := Aside0.mk hb1
      clear hb1
      go_wp2
      go_ret
      exact ⟨rfl, After.stay H.out (below_then ((Below.refl _ _).alloc (Nat.le_refl _) _) (by simp) HB1.out) _⟩
end Go.Proofs.YthklnopfgoekeaaDoor.X
