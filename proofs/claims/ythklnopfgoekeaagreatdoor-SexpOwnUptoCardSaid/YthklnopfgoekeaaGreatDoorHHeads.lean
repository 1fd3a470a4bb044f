/- sexp.Kids: a list's kids, in a row of one's own. The reference's Kids: a list's own row, handed on. Both heads. sexp.Head and the reference's: the bare symbol with which a list begins. -/
import Derived.Test.YthklnopfgoekeaaGreatDoorX0
import Derived.Test.YthklnopfgoekeaaGreatDoorShelfC
import Derived.StillTailTactics
namespace Go.Proofs.YthklnopfgoekeaaGreatDoor.X
section
open Go.RowKit Go.Proofs.YthklnopfgoekeaaGreatDoorW.PrintWords Go.Proofs.YthklnopfgoekeaaGreatDoorW.PrintLast Go.Proofs.YthklnopfgoekeaaGreatDoorW.PrintMore
set_option linter.unusedVariables false
def kidsR (l : List S56) (a : Int) : List Int := if a < 0 ∨ (l.length : Int) ≤ a then [] else if (rd_T56 l a).f0 = 2 then (rd_T56 l a).f2 else []
def sexp_Kids.f (l0 : List (S56)) (a1 : Int) : Option (List Int) := if (rd_T56 l0 a1).f2.length ≤ 1099511627776 then some (kidsR l0 a1) else none
theorem spot_none {w : World} {a : Addr} {v : Value} (h : w.cell? a = some v) : a = ⟨a.block, a.off, none⟩ := by
  unfold World.cell? at h
  split at h
  · split at h
    · cases h
    · rename_i hs
      cases a with
      | mk b o sp => cases sp with
        | none => rfl
        | some x => exact absurd rfl hs
  · cases h
theorem own_ints {w : World} {base : Nat} {v : Value} {zs : List Int} (h : w.ownsRow base 3 1 v zs.length (zs.map (Value.int .i64))) : Kd.R (Kd.int .i64) 3 w base (fun _ => True) v zs := by
  refine ⟨fun _ _ => trivial, zs.map (Value.int .i64), h, ⟨by rw [List.length_map]; exact (Nat.mul_one _).symm, fun j p hj => ?_⟩⟩
  show ((zs.map (Value.int .i64)).drop (j * 1)).take 1 = [.int .i64 p]
  obtain ⟨hjl, hp⟩ := List.getElem?_eq_some_iff.1 hj
  rw [Nat.mul_one, List.drop_eq_getElem_cons (by rw [List.length_map]; exact hjl)]
  simp [hp]
theorem clone_tells (A : Option Addr) (c : Nat) (zs : List Int) (w : World) (h : (Kd.int .i64).C w A zs.length zs) (hz : zs.length ≤ 1099511627776) :
    Calls Tryz.prog 31 #[.slice A zs.length c] w fun e w' => ∃ v : Value, e = .returned v ∧ Kd.R (Kd.int .i64) 3 w' w.heap.size (fun _ => True) v zs ∧ Below w.heap.size w w' := by
  rcases A with _ | ad
  · have h0 : zs = [] := by
      rcases Nat.eq_zero_or_pos zs.length with h0 | h0
      · exact List.eq_nil_of_length_eq_zero h0
      · obtain ⟨ad, h, _⟩ := h.2.2 h0
        cases h
    subst h0
    refine (Tryz.slices_Clone_int_nil _ c w).mono ?_
    rintro e w' ⟨rfl, rfl⟩
    exact ⟨_, rfl, Kd.R_nil _ _ _ _ _, Below.refl _ _⟩
  · rcases Nat.eq_zero_or_pos zs.length with h0 | h0
    · obtain rfl : zs = [] := List.eq_nil_of_length_eq_zero h0
      refine (Tryz.slices_Clone_int_zero ad c w).mono ?_
      rintro e w' ⟨v, rfl, ho, _, hb⟩
      exact ⟨_, rfl, own_ints (zs := []) ho, hb⟩
    · have hat : ∀ j : Nat, j < zs.length → w.cell? (ad.add j) = some (.int .i64 (zs.getD j 0)) := by
        intro j hj
        obtain ⟨ad', e1, e2⟩ := Kd.at_int h j (by omega) (by omega)
        injection e1 with e1
        subst e1
        exact e2
      have h00 := hat 0 h0
      have hs := spot_none h00
      have hs2 : ad = ⟨ad.block, ad.off, none⟩ := by
        cases ad with
        | mk b o sp => simp [Addr.add] at hs ⊢; exact hs
      rw [hs2] at hat ⊢
      refine (Tryz.slices_Clone_int ad.block ad.off zs.length c zs w (Nat.le_refl _) (by omega) (fun j hj => by
        have := hat j hj
        rcases Nat.eq_zero_or_pos j with h | h
        · subst h; simpa [Addr.add] using this
        · simpa [Addr.add, Nat.ne_of_gt h] using this)).mono ?_
      rintro e w' ⟨v, rfl, ho, _, hb⟩
      rw [List.take_length] at ho
      exact ⟨_, rfl, own_ints ho, hb⟩
set_option maxHeartbeats 4000000 in
set_option maxRecDepth 100000 in
theorem kids_tells (A0 : Option Addr) (c0 : Nat) (l0 : List (S56)) (a1 : Int) (w : World) (hr0 : Kd.C k56 w A0 l0.length l0) (hz : (rd_T56 l0 a1).f2.length ≤ 1099511627776) :
    Calls Tryz.prog 12 #[.slice A0 l0.length c0, .int .i64 a1] w fun e w' => ∃ v0_ : Value, e = .returned (v0_) ∧ Kd.R (Kd.int .i64) 3 w' w.heap.size (fun _ => True) v0_ (kidsR l0 a1) ∧ Below w.heap.size w w' := by
  have HC := Aside0.mk hr0
  clear hr0
  by_cases h0 : a1 < 0
  · have e : kidsR l0 a1 = [] := by unfold kidsR; rw [if_pos (.inl h0)]
    rw [e]
    clear hz e
    go_enter Tryz.func12, Tryz.ntmps12
    go_wp2
    go_ret
    exact ⟨.slice none 0 0, rfl, Kd.R_nil _ _ _ _ _, Below.refl _ _⟩
  · by_cases h1 : (l0.length : Int) ≤ a1
    · have e : kidsR l0 a1 = [] := by unfold kidsR; rw [if_pos (.inr h1)]
      rw [e]
      clear hz e
      go_enter Tryz.func12, Tryz.ntmps12
      go_wp2
      go_ret
      exact ⟨.slice none 0 0, rfl, Kd.R_nil _ _ _ _ _, Below.refl _ _⟩
    · obtain ⟨a0, A6, c6, rfl, e0, e1, e2, e3, e4, e5, e6, l6, g6⟩ := at_T56 HC.out a1 (by omega) (by omega)
      obtain ⟨x, hx⟩ : ∃ x, x = rd_T56 l0 a1 := ⟨_, rfl⟩
      have e : kidsR l0 a1 = if x.f0 = 2 then x.f2 else [] := by unfold kidsR; rw [if_neg (by omega), hx]
      rw [e]
      rw [← hx] at e0 e6 l6 g6 hz
      clear e hx e1 e2 e3 e4 e5
      by_cases h2 : x.f0 = 2
      · rw [if_pos h2]
        have h2b : (x.f0 != 2) = false := bne_eq_false_iff_eq.2 h2
        have G6 := Aside0.mk g6
        have HZ := Aside0.mk hz
        clear g6 l6 hz h2
        go_enter Tryz.func12, Tryz.ntmps12
        go_wp2_with fail
        refine (clone_tells A6 c6 x.f2 w G6.out HZ.out).mono ?_
        rintro e_ w1 ⟨v, rfl, hR, hb⟩
        go_wp2
        go_ret
        exact ⟨v, rfl, hR, hb⟩
      · rw [if_neg h2]
        have h2b : (x.f0 != 2) = true := bne_iff_ne.2 h2
        clear g6 l6 hz h2
        go_enter Tryz.func12, Tryz.ntmps12
        go_wp2
        go_ret
        exact ⟨.slice none 0 0, rfl, Kd.R_nil _ _ _ _ _, Below.refl _ _⟩
theorem sexp_Kids.calls (A0 : Option Addr) (c0 : Nat) (l0 : List (S56)) (a1 : Int) (r : List Int) (w : World) (hr0 : Kd.C k56 w A0 l0.length l0) (hc0 : l0.length ≤ c0) (h : sexp_Kids.f l0 a1 = some r) :
    Calls Tryz.prog 12 #[.slice A0 l0.length c0, .int .i64 a1] w fun e w' => ∃ v0_ : Value, e = .returned (v0_) ∧ Kd.R (Kd.int .i64) 3 w' w.heap.size (fun _ => True) v0_ r ∧ Below w.heap.size w w' := by
  unfold sexp_Kids.f at h
  split at h
  · rename_i hs
    injection h with h
    subst h
    exact kids_tells A0 c0 l0 a1 w hr0 hs
  · cases h
end
section
open Go.RowKit Go.Proofs.YthklnopfgoekeaaGreatDoorW.PrintWords Go.Proofs.YthklnopfgoekeaaGreatDoorW.PrintLast Go.Proofs.YthklnopfgoekeaaGreatDoorW.PrintMore
set_option linter.unusedVariables false
set_option maxHeartbeats 4000000 in
set_option maxRecDepth 100000 in
theorem rkids_tells (A0 : Option Addr) (c0 : Nat) (l0 : List (S56)) (a1 : Int) (w : World) (hr0 : Kd.C k56 w A0 l0.length l0) :
    Calls Tryz.prog 13 #[.slice A0 l0.length c0, .int .i64 a1] w fun e w' => ∃ (A : Option Addr) (c : Nat), e = .returned (.slice A (kidsR l0 a1).length c) ∧ (kidsR l0 a1).length ≤ c ∧ (Kd.int .i64).C w' A (kidsR l0 a1).length (kidsR l0 a1) ∧ Below w.heap.size w w' := by
  have HC := Aside0.mk hr0
  obtain ⟨ks, hks⟩ : ∃ ks, ks = kidsR l0 a1 := ⟨_, rfl⟩
  rw [← hks]
  clear hr0
  by_cases h0 : a1 < 0
  · have e : kidsR l0 a1 = [] := by unfold kidsR; rw [if_pos (.inl h0)]
    have HK := Aside0.mk (hks.trans e)
    clear e hks
    go_enter Tryz.func13, Tryz.ntmps13
    go_wp2
    go_ret
    rw [HK.out]
    exact ⟨none, 0, rfl, Nat.le_refl _, Kd.C_nil _ _, Below.refl _ _⟩
  · by_cases h1 : (l0.length : Int) ≤ a1
    · have e : kidsR l0 a1 = [] := by unfold kidsR; rw [if_pos (.inr h1)]
      have HK := Aside0.mk (hks.trans e)
      clear e hks
      go_enter Tryz.func13, Tryz.ntmps13
      go_wp2
      go_ret
      rw [HK.out]
      exact ⟨none, 0, rfl, Nat.le_refl _, Kd.C_nil _ _, Below.refl _ _⟩
    · obtain ⟨a0, A6, c6, rfl, e0, e1, e2, e3, e4, e5, e6, l6, g6⟩ := at_T56 HC.out a1 (by omega) (by omega)
      obtain ⟨x, hx⟩ : ∃ x, x = rd_T56 l0 a1 := ⟨_, rfl⟩
      have e : kidsR l0 a1 = if x.f0 = 2 then x.f2 else [] := by unfold kidsR; rw [if_neg (by omega), hx]
      have HK := Aside0.mk (hks.trans e)
      rw [← hx] at e0 e6 l6 g6
      clear e hks hx e1 e2 e3 e4 e5
      by_cases h2 : x.f0 = 2
      · have HK2 : Aside0 (ks = x.f2) := ⟨by rw [HK.out, if_pos h2]⟩
        have h2b : (x.f0 != 2) = false := bne_eq_false_iff_eq.2 h2
        have G6 := Aside0.mk g6
        have L6 := Aside0.mk l6
        clear g6 l6 h2
        go_enter Tryz.func13, Tryz.ntmps13
        go_wp2
        go_ret
        rw [HK2.out]
        exact ⟨A6, c6, rfl, L6.out, G6.out, Below.refl _ _⟩
      · have HK2 : Aside0 (ks = []) := ⟨by rw [HK.out, if_neg h2]⟩
        have h2b : (x.f0 != 2) = true := bne_iff_ne.2 h2
        clear g6 l6 h2
        go_enter Tryz.func13, Tryz.ntmps13
        go_wp2
        go_ret
        rw [HK2.out]
        exact ⟨none, 0, rfl, Nat.le_refl _, Kd.C_nil _ _, Below.refl _ _⟩
end
section
open Go.RowKit Go.Proofs.YthklnopfgoekeaaGreatDoorW.PrintWords Go.Proofs.YthklnopfgoekeaaGreatDoorW.PrintLast Go.Proofs.YthklnopfgoekeaaGreatDoorW.PrintMore
set_option linter.unusedVariables false
def headK (l : List S56) : List Int → ByteArray × Bool
  | [] => (⟨#[]⟩, false)
  | k :: _ => if k < 0 ∨ (l.length : Int) ≤ k then (⟨#[]⟩, false) else if (rd_T56 l k).f0 = 1 ∧ (rd_T56 l k).f1.f0 = 8 ∧ (rd_T56 l k).f1.f2 = false then ((rd_T56 l k).f1.f1, true) else (⟨#[]⟩, false)
def headR (l : List S56) (a : Int) : ByteArray × Bool := headK l (kidsR l a)
set_option maxHeartbeats 4000000 in
set_option maxRecDepth 100000 in
theorem head_tells (A0 : Option Addr) (c0 : Nat) (l0 : List (S56)) (a1 : Int) (w : World) (hr0 : Kd.C k56 w A0 l0.length l0) (hz : (rd_T56 l0 a1).f2.length ≤ 1099511627776) :
    Calls Tryz.prog 7 #[.slice A0 l0.length c0, .int .i64 a1] w fun e w' => e = .returned (.tuple #[.string (headR l0 a1).1, .bool (headR l0 a1).2]) ∧ Below w.heap.size w w' := by
  have HC := Aside0.mk hr0
  clear hr0
  obtain ⟨ks, hks⟩ : ∃ ks, ks = kidsR l0 a1 := ⟨_, rfl⟩
  have hH : headR l0 a1 = headK l0 ks := by rw [headR, hks]
  rw [hH]
  go_enter Tryz.func7, Tryz.ntmps7
  go_wp2_with fail
  refine (kids_tells A0 c0 l0 a1 w HC.out hz).mono ?_
  rintro e_ w1 ⟨v, rfl, hR, hb⟩
  rw [← hks] at hR
  obtain ⟨A, c, rfl, _, hK⟩ := Kd.R_reads hR
  have HB1 := Aside0.mk hb
  have HC1 := Aside0.mk (Kd.C_below HC.out hb)
  have HK1 := Aside0.mk hK
  clear hR hK hz
  clear hks hH hb
  rcases ks with _ | ⟨k, rest⟩
  · go_wp2
    go_ret2
    exact ⟨rfl, HB1.out⟩
  · obtain ⟨a0, rfl, e0⟩ := Kd.at_int HK1.out 0 (by omega) (by simp)
    replace e0 : w1.cell? (a0.add 0) = some (.int .i64 k) := e0
    have e1 : w1.cell? a0 = some (.int .i64 k) := by simpa [Addr.add] using e0
    obtain ⟨q, hq⟩ : ∃ q, q = (k :: rest).length := ⟨_, rfl⟩
    have hq1 : (((q : Nat) : Int) == 0) = false := beq_eq_false_iff_ne.2 (by rw [hq, List.length_cons]; omega)
    have hq2 : 0 < q := by rw [hq, List.length_cons]; omega
    rw [← hq]
    clear hq
    by_cases h0 : k < 0
    · have e : headK l0 (k :: rest) = (⟨#[]⟩, false) := by rw [headK, if_pos (.inl h0)]
      have HE := Aside0.mk e
      clear e
      go_wp2
      go_ret2
      rw [HE.out]
      exact ⟨rfl, HB1.out⟩
    · by_cases h1 : (l0.length : Int) ≤ k
      · have e : headK l0 (k :: rest) = (⟨#[]⟩, false) := by rw [headK, if_pos (.inr h1)]
        have HE := Aside0.mk e
        clear e
        go_wp2
        go_ret2
        rw [HE.out]
        exact ⟨rfl, HB1.out⟩
      · obtain ⟨b0, A6, c6, rfl, f0, f1, f2, f3, f4, f5, f6, l6, g6⟩ := at_T56 HC1.out k (by omega) (by omega)
        obtain ⟨x, hx⟩ : ∃ x, x = rd_T56 l0 k := ⟨_, rfl⟩
        have e : headK l0 (k :: rest) = if x.f0 = 1 ∧ x.f1.f0 = 8 ∧ x.f1.f2 = false then (x.f1.f1, true) else (⟨#[]⟩, false) := by rw [headK, if_neg (by omega), hx]
        have HE := Aside0.mk e
        rw [← hx] at f0 f1 f2 f3 f4 f5 f6
        have HB2 : Aside0 (∀ o, Below w.heap.size w (w1.alloc o)) := ⟨fun o => HB1.out.alloc HB1.out.size o⟩
        clear hx e l6 g6
        by_cases h2 : x.f0 = 1
        · have h2b : (x.f0 != 1) = false := bne_eq_false_iff_eq.2 h2
          by_cases h3 : x.f1.f0 = 8
          · have h3b : (x.f1.f0 != 8) = false := bne_eq_false_iff_eq.2 h3
            have H2 := Aside0.mk h2
            have H3 := Aside0.mk h3
            clear h2 h3
            cases h4 : x.f1.f2 with
            | false =>
              rw [h4] at f3
              have HE2 : Aside0 (headK l0 (k :: rest) = (x.f1.f1, true)) := ⟨by rw [HE.out, if_pos ⟨H2.out, H3.out, h4⟩]⟩
              go_wp2
              go_ret2
              rw [HE2.out]
              exact ⟨rfl, HB2.out _⟩
            | true =>
              rw [h4] at f3
              have HE2 : Aside0 (headK l0 (k :: rest) = (⟨#[]⟩, false)) := ⟨by rw [HE.out, if_neg (fun h => by rw [h4] at h; exact absurd h.2.2 (by decide))]⟩
              go_wp2
              go_ret2
              rw [HE2.out]
              exact ⟨rfl, HB2.out _⟩
          · have h3b : (x.f1.f0 != 8) = true := bne_iff_ne.2 h3
            have HE2 : Aside0 (headK l0 (k :: rest) = (⟨#[]⟩, false)) := ⟨by rw [HE.out, if_neg (fun h => h3 h.2.1)]⟩
            clear h2 h3
            go_wp2
            go_ret2
            rw [HE2.out]
            exact ⟨rfl, HB2.out _⟩
        · have h2b : (x.f0 != 1) = true := bne_iff_ne.2 h2
          have HE2 : Aside0 (headK l0 (k :: rest) = (⟨#[]⟩, false)) := ⟨by rw [HE.out, if_neg (fun h => h2 h.1)]⟩
          clear h2
          go_wp2
          go_ret2
          rw [HE2.out]
          exact ⟨rfl, HB2.out _⟩
set_option maxHeartbeats 4000000 in
set_option maxRecDepth 100000 in
theorem rhead_tells (A0 : Option Addr) (c0 : Nat) (l0 : List (S56)) (a1 : Int) (w : World) (hr0 : Kd.C k56 w A0 l0.length l0) :
    Calls Tryz.prog 8 #[.slice A0 l0.length c0, .int .i64 a1] w fun e w' => e = .returned (.tuple #[.string (headR l0 a1).1, .bool (headR l0 a1).2]) ∧ Below w.heap.size w w' := by
  have HC := Aside0.mk hr0
  clear hr0
  obtain ⟨ks, hks⟩ : ∃ ks, ks = kidsR l0 a1 := ⟨_, rfl⟩
  have hH : headR l0 a1 = headK l0 ks := by rw [headR, hks]
  rw [hH]
  go_enter Tryz.func8, Tryz.ntmps8
  go_wp2_with fail
  refine (rkids_tells A0 c0 l0 a1 w HC.out).mono ?_
  rintro e_ w1 ⟨A, c, rfl, _, hK, hb⟩
  rw [← hks] at hK ⊢
  have HB1 := Aside0.mk hb
  have HC1 := Aside0.mk (Kd.C_below HC.out hb)
  have HK1 := Aside0.mk hK
  clear hK
  clear hks hH hb
  rcases ks with _ | ⟨k, rest⟩
  · go_wp2
    go_ret2
    exact ⟨rfl, HB1.out⟩
  · obtain ⟨a0, rfl, e0⟩ := Kd.at_int HK1.out 0 (by omega) (by simp)
    replace e0 : w1.cell? (a0.add 0) = some (.int .i64 k) := e0
    have e1 : w1.cell? a0 = some (.int .i64 k) := by simpa [Addr.add] using e0
    obtain ⟨q, hq⟩ : ∃ q, q = (k :: rest).length := ⟨_, rfl⟩
    have hq1 : (((q : Nat) : Int) == 0) = false := beq_eq_false_iff_ne.2 (by rw [hq, List.length_cons]; omega)
    have hq2 : 0 < q := by rw [hq, List.length_cons]; omega
    rw [← hq]
    clear hq
    by_cases h0 : k < 0
    · have e : headK l0 (k :: rest) = (⟨#[]⟩, false) := by rw [headK, if_pos (.inl h0)]
      have HE := Aside0.mk e
      clear e
      go_wp2
      go_ret2
      rw [HE.out]
      exact ⟨rfl, HB1.out⟩
    · by_cases h1 : (l0.length : Int) ≤ k
      · have e : headK l0 (k :: rest) = (⟨#[]⟩, false) := by rw [headK, if_pos (.inr h1)]
        have HE := Aside0.mk e
        clear e
        go_wp2
        go_ret2
        rw [HE.out]
        exact ⟨rfl, HB1.out⟩
      · obtain ⟨b0, A6, c6, rfl, f0, f1, f2, f3, f4, f5, f6, l6, g6⟩ := at_T56 HC1.out k (by omega) (by omega)
        obtain ⟨x, hx⟩ : ∃ x, x = rd_T56 l0 k := ⟨_, rfl⟩
        have e : headK l0 (k :: rest) = if x.f0 = 1 ∧ x.f1.f0 = 8 ∧ x.f1.f2 = false then (x.f1.f1, true) else (⟨#[]⟩, false) := by rw [headK, if_neg (by omega), hx]
        have HE := Aside0.mk e
        rw [← hx] at f0 f1 f2 f3 f4 f5 f6
        have HB2 : Aside0 (∀ o, Below w.heap.size w (w1.alloc o)) := ⟨fun o => HB1.out.alloc HB1.out.size o⟩
        clear hx e l6 g6
        by_cases h2 : x.f0 = 1
        · have h2b : (x.f0 != 1) = false := bne_eq_false_iff_eq.2 h2
          by_cases h3 : x.f1.f0 = 8
          · have h3b : (x.f1.f0 != 8) = false := bne_eq_false_iff_eq.2 h3
            have H2 := Aside0.mk h2
            have H3 := Aside0.mk h3
            clear h2 h3
            cases h4 : x.f1.f2 with
            | false =>
              rw [h4] at f3
              have HE2 : Aside0 (headK l0 (k :: rest) = (x.f1.f1, true)) := ⟨by rw [HE.out, if_pos ⟨H2.out, H3.out, h4⟩]⟩
              go_wp2
              go_ret2
              rw [HE2.out]
              exact ⟨rfl, HB2.out _⟩
            | true =>
              rw [h4] at f3
              have HE2 : Aside0 (headK l0 (k :: rest) = (⟨#[]⟩, false)) := ⟨by rw [HE.out, if_neg (fun h => by rw [h4] at h; exact absurd h.2.2 (by decide))]⟩
              go_wp2
              go_ret2
              rw [HE2.out]
              exact ⟨rfl, HB2.out _⟩
          · have h3b : (x.f1.f0 != 8) = true := bne_iff_ne.2 h3
            have HE2 : Aside0 (headK l0 (k :: rest) = (⟨#[]⟩, false)) := ⟨by rw [HE.out, if_neg (fun h => h3 h.2.1)]⟩
            clear h2 h3
            go_wp2
            go_ret2
            rw [HE2.out]
            exact ⟨rfl, HB2.out _⟩
        · have h2b : (x.f0 != 1) = true := bne_iff_ne.2 h2
          have HE2 : Aside0 (headK l0 (k :: rest) = (⟨#[]⟩, false)) := ⟨by rw [HE.out, if_neg (fun h => h2 h.1)]⟩
          clear h2
          go_wp2
          go_ret2
          rw [HE2.out]
          exact ⟨rfl, HB2.out _⟩
end
end Go.Proofs.YthklnopfgoekeaaGreatDoor.X
