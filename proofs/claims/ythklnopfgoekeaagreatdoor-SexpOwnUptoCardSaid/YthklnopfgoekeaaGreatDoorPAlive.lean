/- What all the sexp laws ask: the self-test stands. -/
import Derived.Test.YthklnopfgoekeaaGreatDoorX0
import Derived.Test.YthklnopfgoekeaaGreatDoorHText
import Derived.Test.YthklnopfgoekeaaGreatDoorHParse
import Derived.Test.YthklnopfgoekeaaGreatDoorHScan
namespace Go.Proofs.YthklnopfgoekeaaGreatDoor.X
section
open Go.RowKit Go.Proofs.YthklnopfgoekeaaGreatDoorW.PrintWords Go.Proofs.YthklnopfgoekeaaGreatDoorW.PrintLast Go.Proofs.YthklnopfgoekeaaGreatDoorW.PrintMore
attribute [local go_sem] max2_int min2_int max_two min_two max_three min_three max_four min_four   -- for this text's walks alone
set_option linter.unusedVariables false
set_option linter.unusedSimpArgs false

/-! ### tribunallaw07_read: function 28 -/
def tribunallaw07_read.f (a0 : ByteArray) : Option ((List (S56)) × List Int × Int) := (lexis_Scan.f a0).bind fun bt232 => (if bt232.2.2.2 = 0 then ((sexp_Parse.f bt232.1).bind fun bt238 => (some (bt238.1, bt238.2.1, bt238.2.2.2.2))) else (some (([] : List (S56)), ([] : List Int), bt232.2.2.2)))
set_option maxHeartbeats 8000000 in
set_option maxRecDepth 100000 in
theorem tribunallaw07_read.calls (a0 : ByteArray) (r1 : List (S56)) (r2 : List Int) (r3 : Int) (w : World) (h : tribunallaw07_read.f a0 = some (r1, r2, r3)) :
    Calls Tryz.prog 32 #[.string a0] w fun e w' => ∃ v0_ v1_ : Value, e = .returned (.tuple #[v0_, v1_, .int .i64 r3]) ∧ Kd.S k56 56 w' w.heap.size (fun k_ => some k_ ≠ (v1_ : Value).ownBlock) v0_ r1 ∧ Kd.R (Kd.int .i64) 3 w' w.heap.size (fun _ => True) v1_ r2 ∧ Below w.heap.size w w' := by
  have HB := Aside0.mk (Below.refl w.heap.size w)
  have H : ((lexis_Scan.f a0).bind fun bt232 => (if bt232.2.2.2 = 0 then ((sexp_Parse.f bt232.1).bind fun bt238 => (some (bt238.1, bt238.2.1, bt238.2.2.2.2))) else (some (([] : List (S56)), ([] : List Int), bt232.2.2.2)))) = some (r1, r2, r3) := h
  clear h
  replace H := Option.bind_eq_some_iff.mp H
  obtain ⟨⟨t232, t233, t234, t235⟩, A20, H⟩ := H
  replace H : (if t235 = 0 then ((sexp_Parse.f t232).bind fun bt238 => (some (bt238.1, bt238.2.1, bt238.2.2.2.2))) else (some (([] : List (S56)), ([] : List Int), t235))) = some (r1, r2, r3) := H
  have A2 := Aside0.mk A20
  clear A20
  by_cases c3 : t235 = 0
  · rw [if_pos c3] at H
    have c3b0 : (t235 == 0) = true := beq_iff_eq.mpr c3
    have c3b1 : (t235 != 0) = false := bne_eq_false_iff_eq.mpr c3
    clear c3
    replace H := Option.bind_eq_some_iff.mp H
    obtain ⟨⟨t238, t239, t240, t241, t242⟩, A40, H⟩ := H
    replace H : (some (t238, t239, t242)) = some (r1, r2, r3) := H
    have A4 := Aside0.mk A40
    clear A40
    simp only [Option.some.injEq, Prod.mk.injEq] at H
    obtain ⟨rfl, rfl, rfl⟩ := H
    go_enter Tryz.func32, Tryz.ntmps32
    go_wp2_with (first | ((with_reducible refine gate_callee (f := 34) rfl ?_); refine goesL_ (some 16) rfl rfl Tryz.func34 (by kernel_rfl) rfl #[.string a0] rfl (by (try simp only [List.map_toArray, List.map_cons, List.map_nil]); rfl) ?_; (with_reducible refine (lexis_Scan.calls a0 t232 t233 t234 t235 _ A2.out).mono ?_); rintro e w5 ⟨v236, rfl, ho0, hb⟩; refine ⟨_, rfl, ?_⟩; have n0_ := Aside0.mk (Kd.R_lower ho0 (below_size (by exact HB.out))); have n1_ := Aside0.mk (below_step (by exact HB.out) hb); clear HB; have HO237 := n0_; have HB := n1_; clear n0_ n1_; (try clear hb); (try clear ho0); obtain ⟨Ao6, co6, eo6⟩ := Kd.R_slice HO237.out; subst eo6) | ((with_reducible refine gate_callee (f := 24) rfl ?_); refine goesL_ (some 26) rfl rfl Tryz.func24 (by kernel_rfl) rfl #[.slice Ao6 t232.length co6] rfl (by (try simp only [List.map_toArray, List.map_cons, List.map_nil]); rfl) ?_; (with_reducible refine (sexp_Parse.calls _ _ t232 t238 t239 t240 t241 t242 _ ?side1 ?side2 A4.out).mono ?_); (case side1 => repeat (exact (Kd.R_reads' HO237.out).2.2)); (case side2 => exact (Kd.R_reads' HO237.out).2.1); rintro e w7 ⟨v243, v245, rfl, ho0, ho1, hb⟩; refine ⟨_, rfl, ?_⟩; have n0_ := Aside0.mk (Kd.R_below (by exact HO237.out) hb); have n1_ := Aside0.mk (Kd.S_lower ho0 (below_size (by exact HB.out))); have n2_ := Aside0.mk (Kd.R_lower ho1 (below_size (by exact HB.out))); have n3_ := Aside0.mk (below_step (by exact HB.out) hb); clear HO237; clear HB; have HO237 := n0_; have HO244 := n1_; have HO246 := n2_; have HB := n3_; clear n0_ n1_ n2_ n3_; (try clear hb); (try clear ho0); (try clear ho1)))
    go_ret3
    exact ⟨_, _, by rfl, by exact HO244.out, by exact HO246.out, by exact HB.out⟩
  · rw [if_neg c3] at H
    have c3b0 : (t235 == 0) = false := beq_eq_false_iff_ne.mpr c3
    have c3b1 : (t235 != 0) = true := bne_iff_ne.mpr c3
    simp only [Option.some.injEq, Prod.mk.injEq] at H
    obtain ⟨rfl, rfl, rfl⟩ := H
    go_enter Tryz.func32, Tryz.ntmps32
    go_wp2_with ((((with_reducible refine gate_callee (f := 34) rfl ?_); refine goesL_ (some 16) rfl rfl Tryz.func34 (by kernel_rfl) rfl #[.string a0] rfl (by (try simp only [List.map_toArray, List.map_cons, List.map_nil]); rfl) ?_; (with_reducible refine (lexis_Scan.calls a0 t232 t233 t234 t235 _ A2.out).mono ?_); rintro e w8 ⟨v236, rfl, ho0, hb⟩; refine ⟨_, rfl, ?_⟩; have n0_ := Aside0.mk (Kd.R_lower ho0 (below_size (by exact HB.out))); have n1_ := Aside0.mk (below_step (by exact HB.out) hb); clear HB; have HO237 := n0_; have HB := n1_; clear n0_ n1_; (try clear hb); (try clear ho0))))
    go_ret3
    exact ⟨_, _, by rfl, by exact Kd.S_nil _ _ _ _ _, by exact Kd.R_nil _ _ _ _ _, by exact HB.out⟩

/-! ### tribunallaw07_alive: function 27 -/
def tribunallaw07_alive.j0 : Nat → List (S56) → Bool → Option (Bool)
  | 0, _, _ => none
  | k + 1, x1, x30 => if x30 = true then (some false) else ((sexp_Text.f k x1 4).bind fun bt290 => ((sexp_Depth.f k x1 4).bind fun bt292 => (if bt290.2 = 0 then (if bt292.2 = 0 then (if bt290.1.toList = ([40, 97, 32, 40, 98, 41, 32, 40, 41, 41] : List UInt8) then (some (bt292.1 == 2)) else (some false)) else (some false)) else (some false))))
def tribunallaw07_alive.f (k : Nat)  : Option (Bool) := (tribunallaw07_read.f (⟨#[40, 97, 32, 40, 98, 41, 32, 40, 41, 41]⟩ : ByteArray)).bind fun bt282 => (if bt282.2.2 = 0 then (if (bt282.2.1.length : Int) = 1 then (if 0 < (bt282.2.1.length : Int) then (if (rd bt282.2.1 0) = 4 then (tribunallaw07_alive.j0 k bt282.1 ((bt282.1.length : Int) != 5)) else (tribunallaw07_alive.j0 k bt282.1 true)) else (none)) else (tribunallaw07_alive.j0 k bt282.1 true)) else (tribunallaw07_alive.j0 k bt282.1 true))
theorem tribunallaw07_alive.mono_l : ∀ k, (∀ y0 y1, LeO (tribunallaw07_alive.j0 k y0 y1) (tribunallaw07_alive.j0 (k + 1) y0 y1))
  | 0 => fun _ _ r h => by simp [tribunallaw07_alive.j0] at h
  | k + 1 => by
    have ih0 := tribunallaw07_alive.mono_l k
    · intro y0 y1
      unfold tribunallaw07_alive.j0
      repeat' first
      | (with_reducible exact sexp_Depth.mono _ _ _)
      | (with_reducible exact sexp_Text.mono _ _ _)
      | (with_reducible exact LeO.refl _)
      | (with_reducible refine LeO.ite ?_ ?_)
      | (with_reducible refine LeO.bind ?_ (fun _ => ?_))
theorem tribunallaw07_alive.mono : ∀ k, LeO (tribunallaw07_alive.f k ) (tribunallaw07_alive.f (k + 1) ) := by
  intro  k
  have ih0 := tribunallaw07_alive.mono_l k
  unfold tribunallaw07_alive.f
  repeat' first
      | (with_reducible exact ih0 _ _)
      | (with_reducible exact LeO.refl _)
      | (with_reducible refine LeO.ite ?_ ?_)
      | (with_reducible refine LeO.bind ?_ (fun _ => ?_))
set_option maxHeartbeats 8000000 in
set_option maxRecDepth 100000 in
theorem tribunallaw07_alive.calls (k : Nat)  (r : Bool) (w : World) (h : tribunallaw07_alive.f k  = some r) :
    Calls Tryz.prog 14 #[] w fun e w' => e = .returned (.bool r) ∧ Below w.heap.size w w' := by
  have HB := Aside0.mk (Below.refl w.heap.size w)
  have H : ((tribunallaw07_read.f (⟨#[40, 97, 32, 40, 98, 41, 32, 40, 41, 41]⟩ : ByteArray)).bind fun bt282 => (if bt282.2.2 = 0 then (if (bt282.2.1.length : Int) = 1 then (if 0 < (bt282.2.1.length : Int) then (if (rd bt282.2.1 0) = 4 then (tribunallaw07_alive.j0 k bt282.1 ((bt282.1.length : Int) != 5)) else (tribunallaw07_alive.j0 k bt282.1 true)) else (none)) else (tribunallaw07_alive.j0 k bt282.1 true)) else (tribunallaw07_alive.j0 k bt282.1 true))) = some r := h
  clear h
  replace H := Option.bind_eq_some_iff.mp H
  obtain ⟨⟨t282, t283, t284⟩, A10, H⟩ := H
  replace H : (if t284 = 0 then (if (t283.length : Int) = 1 then (if 0 < (t283.length : Int) then (if (rd t283 0) = 4 then (tribunallaw07_alive.j0 k t282 ((t282.length : Int) != 5)) else (tribunallaw07_alive.j0 k t282 true)) else (none)) else (tribunallaw07_alive.j0 k t282 true)) else (tribunallaw07_alive.j0 k t282 true)) = some r := H
  have A1 := Aside0.mk A10
  clear A10
  have HC2 := Aside0.mk H
  clear H
  go_enter Tryz.func14, Tryz.ntmps14
  go_upto_region 2 with ((((with_reducible refine gate_callee (f := 32) rfl ?_); refine goesL_ (some 9) rfl rfl Tryz.func32 (by kernel_rfl) rfl #[.string (⟨#[40, 97, 32, 40, 98, 41, 32, 40, 41, 41]⟩ : ByteArray)] rfl (by (try simp only [List.map_toArray, List.map_cons, List.map_nil]); rfl) ?_; (with_reducible refine (tribunallaw07_read.calls (⟨#[40, 97, 32, 40, 98, 41, 32, 40, 41, 41]⟩ : ByteArray) t282 t283 t284 _ A1.out).mono ?_); rintro e w3 ⟨v285, v287, rfl, ho0, ho1, hb⟩; refine ⟨_, rfl, ?_⟩; have n0_ := Aside0.mk (Kd.S_lower ho0 (below_size (by exact HB.out))); have n1_ := Aside0.mk (Kd.R_lower ho1 (below_size (by exact HB.out))); have n2_ := Aside0.mk (below_step (by exact HB.out) hb); clear HB; have HO286 := n0_; have HO288 := n1_; have HB := n2_; clear n0_ n1_ n2_; (try clear hb); (try clear ho0); (try clear ho1))))
  skip
  go_cut [30] (fun v30 wc => ∃ (kq : Nat) (x30_1 : Bool), v30 = .bool x30_1 ∧ Aside0 (tribunallaw07_alive.j0 kq t282 x30_1 = some r) ∧ Aside0 (kq ≤ k) ∧ Aside0 (Kd.S k56 56 wc w.heap.size (fun _ => True) v285 t282) ∧ Aside0 (Below w.heap.size w wc))
  case first =>
    have H := HC2.out
    clear HC2
    by_cases c4 : t284 = 0
    · rw [if_pos c4] at H
      have c4b0 : (t284 == 0) = true := beq_iff_eq.mpr c4
      have c4b1 : (t284 != 0) = false := bne_eq_false_iff_eq.mpr c4
      clear c4
      (skip)
      by_cases c5 : (t283.length : Int) = 1
      · rw [if_pos c5] at H
        have c5b0 : ((t283.length : Int) == 1) = true := beq_iff_eq.mpr c5
        have c5b1 : ((t283.length : Int) != 1) = false := bne_eq_false_iff_eq.mpr c5
        clear c5
        by_cases c6 : 0 < (t283.length : Int)
        · rw [if_pos c6] at H
          have c6b0 : decide (0 < (t283.length : Int)) = true := decide_eq_true c6
          have c6b1 : decide (0 < t283.length) = true := decide_eq_true (by omega)
          clear c6
          by_cases c7 : (rd t283 0) = 4
          · rw [if_pos c7] at H
            have c7b0 : ((rd t283 0) == 4) = true := beq_iff_eq.mpr c7
            have c7b1 : ((rd t283 0) != 4) = false := bne_eq_false_iff_eq.mpr c7
            clear c7
            have H' := Aside0.mk H
            clear H
            obtain ⟨Ao8, co8, eo8⟩ := Kd.R_slice HO288.out
            subst eo8
            have p289 : 0 ≤ (0 : Int) := (by omega)
            have q289 : 0 < (t283.length : Int) := of_decide_eq_true (by assumption)
            obtain ⟨ad289, e289, hx289_0⟩ := Kd.at_int (Kd.R_reads' HO288.out).2.2 0 p289 q289
            cases e289
            have qi289 : (0 < t283.length) = True := eq_true (by omega)
            (try rw [show ((0 : Int)).toNat = 0 from rfl] at hx289_0)
            (try rw [Addr.add_zero'] at hx289_0)
            replace p289 := eq_true p289
            replace q289 := eq_true q289
            obtain ⟨Ao9, co9, eo9⟩ := Kd.S_slice HO286.out
            subst eo9
            go_wp2
            go_meet
            case rel => exact ⟨_, (((t282.length : Int) != 5)), (by rfl), H', ⟨by omega⟩, ⟨by exact Kd.S_mono HO286.out (fun _ hk => trivial)⟩, ⟨by exact HB.out⟩⟩
          · rw [if_neg c7] at H
            have c7b0 : ((rd t283 0) == 4) = false := beq_eq_false_iff_ne.mpr c7
            have c7b1 : ((rd t283 0) != 4) = true := bne_iff_ne.mpr c7
            have H' := Aside0.mk H
            clear H
            obtain ⟨Ao10, co10, eo10⟩ := Kd.R_slice HO288.out
            subst eo10
            have p289 : 0 ≤ (0 : Int) := (by omega)
            have q289 : 0 < (t283.length : Int) := of_decide_eq_true (by assumption)
            obtain ⟨ad289, e289, hx289_0⟩ := Kd.at_int (Kd.R_reads' HO288.out).2.2 0 p289 q289
            cases e289
            have qi289 : (0 < t283.length) = True := eq_true (by omega)
            (try rw [show ((0 : Int)).toNat = 0 from rfl] at hx289_0)
            (try rw [Addr.add_zero'] at hx289_0)
            replace p289 := eq_true p289
            replace q289 := eq_true q289
            go_wp2
            go_meet
            case rel => exact ⟨_, (true), (by rfl), H', ⟨by omega⟩, ⟨by exact Kd.S_mono HO286.out (fun _ hk => trivial)⟩, ⟨by exact HB.out⟩⟩
        · rw [if_neg c6] at H
          exact absurd H (by simp)
      · rw [if_neg c5] at H
        have c5b0 : ((t283.length : Int) == 1) = false := beq_eq_false_iff_ne.mpr c5
        have c5b1 : ((t283.length : Int) != 1) = true := bne_iff_ne.mpr c5
        have H' := Aside0.mk H
        clear H
        obtain ⟨Ao11, co11, eo11⟩ := Kd.R_slice HO288.out
        subst eo11
        go_wp2
        go_meet
        case rel => exact ⟨_, (true), (by rfl), H', ⟨by omega⟩, ⟨by exact Kd.S_mono HO286.out (fun _ hk => trivial)⟩, ⟨by exact HB.out⟩⟩
    · rw [if_neg c4] at H
      have c4b0 : (t284 == 0) = false := beq_eq_false_iff_ne.mpr c4
      have c4b1 : (t284 != 0) = true := bne_iff_ne.mpr c4
      (skip)
      have H' := Aside0.mk H
      clear H
      go_wp2
      go_meet
      case rel => exact ⟨_, (true), (by rfl), H', ⟨by omega⟩, ⟨by exact Kd.S_mono HO286.out (fun _ hk => trivial)⟩, ⟨by exact HB.out⟩⟩
  case rest =>
    clear HC2
    obtain ⟨kq, x30_1, rfl, HA, HJ1, HO_1, HB⟩ := hcut
    cases kq with
    | zero => exact absurd HA.out (by simp [tribunallaw07_alive.j0])
    | succ kj1 =>
      have H := HA.out
      clear HA
      simp only [tribunallaw07_alive.j0] at H
      by_cases c12 : x30_1 = true
      · subst c12
        have H1 : (some false) = some r := by rw [if_pos rfl] at H; exact H
        clear H
        have H := H1
        clear H1
        obtain rfl := Option.some.inj H
        go_wp2
        go_ret
        exact ⟨by rfl, by exact HB.out⟩
      · replace c12 := Bool.eq_false_iff.mpr c12
        subst c12
        have H1 : ((sexp_Text.f kj1 t282 4).bind fun bt290 => ((sexp_Depth.f kj1 t282 4).bind fun bt292 => (if bt290.2 = 0 then (if bt292.2 = 0 then (if bt290.1.toList = ([40, 97, 32, 40, 98, 41, 32, 40, 41, 41] : List UInt8) then (some (bt292.1 == 2)) else (some false)) else (some false)) else (some false)))) = some r := by rw [if_neg (show ¬ (false = true) by decide)] at H; exact H
        clear H
        have H := H1
        clear H1
        replace H := Option.bind_eq_some_iff.mp H
        obtain ⟨⟨t290, t291⟩, A130, H⟩ := H
        replace H : ((sexp_Depth.f kj1 t282 4).bind fun bt292 => (if t291 = 0 then (if bt292.2 = 0 then (if t290.toList = ([40, 97, 32, 40, 98, 41, 32, 40, 41, 41] : List UInt8) then (some (bt292.1 == 2)) else (some false)) else (some false)) else (some false))) = some r := H
        have A13 := Aside0.mk A130
        clear A130
        replace H := Option.bind_eq_some_iff.mp H
        obtain ⟨⟨t292, t293⟩, A140, H⟩ := H
        replace H : (if t291 = 0 then (if t293 = 0 then (if t290.toList = ([40, 97, 32, 40, 98, 41, 32, 40, 41, 41] : List UInt8) then (some (t292 == 2)) else (some false)) else (some false)) else (some false)) = some r := H
        have A14 := Aside0.mk A140
        clear A140
        by_cases c15 : t291 = 0
        · rw [if_pos c15] at H
          have c15b0 : (t291 == 0) = true := beq_iff_eq.mpr c15
          have c15b1 : (t291 != 0) = false := bne_eq_false_iff_eq.mpr c15
          clear c15
          by_cases c16 : t293 = 0
          · rw [if_pos c16] at H
            have c16b0 : (t293 == 0) = true := beq_iff_eq.mpr c16
            have c16b1 : (t293 != 0) = false := bne_eq_false_iff_eq.mpr c16
            clear c16
            by_cases c17 : t290.toList = ([40, 97, 32, 40, 98, 41, 32, 40, 41, 41] : List UInt8)
            · rw [if_pos c17] at H
              have c17b0 : (t290.toList == ([40, 97, 32, 40, 98, 41, 32, 40, 41, 41] : List UInt8)) = true := beq_iff_eq.mpr c17
              have c17b1 : (t290.toList != ([40, 97, 32, 40, 98, 41, 32, 40, 41, 41] : List UInt8)) = false := bne_eq_false_iff_eq.mpr c17
              clear c17
              obtain rfl := Option.some.inj H
              obtain ⟨Ao18, co18, eo18⟩ := Kd.S_slice HO_1.out
              subst eo18
              go_wp2_with (first | ((with_reducible refine gate_callee (f := 22) rfl ?_); refine goesL_ (some 33) rfl rfl Tryz.func22 (by kernel_rfl) rfl #[.slice Ao18 t282.length co18, .int .i64 4] rfl (by (try simp only [List.map_toArray, List.map_cons, List.map_nil]); rfl) ?_; (with_reducible refine (sexp_Text.calls kj1 _ _ t282 4 t290 t291 _ ?side1 ?side2 A13.out).mono ?_); (case side1 => repeat (exact (Kd.S_reads' HO_1.out).2.2)); (case side2 => exact (Kd.S_reads' HO_1.out).2.1); rintro e w19 ⟨rfl, hb⟩; refine ⟨_, rfl, ?_⟩; have n0_ := Aside0.mk (Kd.S_below (by exact HO_1.out) hb); have n1_ := Aside0.mk (below_step (by exact HB.out) hb); clear HO_1; clear HB; have HO_1 := n0_; have HB := n1_; clear n0_ n1_; (try clear hb); ) | ((with_reducible refine gate_callee (f := 9) rfl ?_); refine goesL_ (some 38) rfl rfl Tryz.func9 (by kernel_rfl) rfl #[.slice Ao18 t282.length co18, .int .i64 4] rfl (by (try simp only [List.map_toArray, List.map_cons, List.map_nil]); rfl) ?_; (with_reducible refine (sexp_Depth.calls kj1 _ _ t282 4 t292 t293 _ ?side1 ?side2 A14.out).mono ?_); (case side1 => repeat (exact (Kd.S_reads' HO_1.out).2.2)); (case side2 => exact (Kd.S_reads' HO_1.out).2.1); rintro e w20 ⟨rfl, hb⟩; refine ⟨_, rfl, ?_⟩; have n0_ := Aside0.mk (Kd.S_below (by exact HO_1.out) hb); have n1_ := Aside0.mk (below_step (by exact HB.out) hb); clear HO_1; clear HB; have HO_1 := n0_; have HB := n1_; clear n0_ n1_; (try clear hb); ))
              go_ret
              exact ⟨by rfl, by exact HB.out⟩
            · rw [if_neg c17] at H
              have c17b0 : (t290.toList == ([40, 97, 32, 40, 98, 41, 32, 40, 41, 41] : List UInt8)) = false := beq_eq_false_iff_ne.mpr c17
              have c17b1 : (t290.toList != ([40, 97, 32, 40, 98, 41, 32, 40, 41, 41] : List UInt8)) = true := bne_iff_ne.mpr c17
              obtain rfl := Option.some.inj H
              obtain ⟨Ao21, co21, eo21⟩ := Kd.S_slice HO_1.out
              subst eo21
              go_wp2_with (first | ((with_reducible refine gate_callee (f := 22) rfl ?_); refine goesL_ (some 33) rfl rfl Tryz.func22 (by kernel_rfl) rfl #[.slice Ao21 t282.length co21, .int .i64 4] rfl (by (try simp only [List.map_toArray, List.map_cons, List.map_nil]); rfl) ?_; (with_reducible refine (sexp_Text.calls kj1 _ _ t282 4 t290 t291 _ ?side1 ?side2 A13.out).mono ?_); (case side1 => repeat (exact (Kd.S_reads' HO_1.out).2.2)); (case side2 => exact (Kd.S_reads' HO_1.out).2.1); rintro e w22 ⟨rfl, hb⟩; refine ⟨_, rfl, ?_⟩; have n0_ := Aside0.mk (Kd.S_below (by exact HO_1.out) hb); have n1_ := Aside0.mk (below_step (by exact HB.out) hb); clear HO_1; clear HB; have HO_1 := n0_; have HB := n1_; clear n0_ n1_; (try clear hb); ) | ((with_reducible refine gate_callee (f := 9) rfl ?_); refine goesL_ (some 38) rfl rfl Tryz.func9 (by kernel_rfl) rfl #[.slice Ao21 t282.length co21, .int .i64 4] rfl (by (try simp only [List.map_toArray, List.map_cons, List.map_nil]); rfl) ?_; (with_reducible refine (sexp_Depth.calls kj1 _ _ t282 4 t292 t293 _ ?side1 ?side2 A14.out).mono ?_); (case side1 => repeat (exact (Kd.S_reads' HO_1.out).2.2)); (case side2 => exact (Kd.S_reads' HO_1.out).2.1); rintro e w23 ⟨rfl, hb⟩; refine ⟨_, rfl, ?_⟩; have n0_ := Aside0.mk (Kd.S_below (by exact HO_1.out) hb); have n1_ := Aside0.mk (below_step (by exact HB.out) hb); clear HO_1; clear HB; have HO_1 := n0_; have HB := n1_; clear n0_ n1_; (try clear hb); ))
              go_ret
              exact ⟨by rfl, by exact HB.out⟩
          · rw [if_neg c16] at H
            have c16b0 : (t293 == 0) = false := beq_eq_false_iff_ne.mpr c16
            have c16b1 : (t293 != 0) = true := bne_iff_ne.mpr c16
            obtain rfl := Option.some.inj H
            obtain ⟨Ao24, co24, eo24⟩ := Kd.S_slice HO_1.out
            subst eo24
            go_wp2_with (first | ((with_reducible refine gate_callee (f := 22) rfl ?_); refine goesL_ (some 33) rfl rfl Tryz.func22 (by kernel_rfl) rfl #[.slice Ao24 t282.length co24, .int .i64 4] rfl (by (try simp only [List.map_toArray, List.map_cons, List.map_nil]); rfl) ?_; (with_reducible refine (sexp_Text.calls kj1 _ _ t282 4 t290 t291 _ ?side1 ?side2 A13.out).mono ?_); (case side1 => repeat (exact (Kd.S_reads' HO_1.out).2.2)); (case side2 => exact (Kd.S_reads' HO_1.out).2.1); rintro e w25 ⟨rfl, hb⟩; refine ⟨_, rfl, ?_⟩; have n0_ := Aside0.mk (Kd.S_below (by exact HO_1.out) hb); have n1_ := Aside0.mk (below_step (by exact HB.out) hb); clear HO_1; clear HB; have HO_1 := n0_; have HB := n1_; clear n0_ n1_; (try clear hb); ) | ((with_reducible refine gate_callee (f := 9) rfl ?_); refine goesL_ (some 38) rfl rfl Tryz.func9 (by kernel_rfl) rfl #[.slice Ao24 t282.length co24, .int .i64 4] rfl (by (try simp only [List.map_toArray, List.map_cons, List.map_nil]); rfl) ?_; (with_reducible refine (sexp_Depth.calls kj1 _ _ t282 4 t292 t293 _ ?side1 ?side2 A14.out).mono ?_); (case side1 => repeat (exact (Kd.S_reads' HO_1.out).2.2)); (case side2 => exact (Kd.S_reads' HO_1.out).2.1); rintro e w26 ⟨rfl, hb⟩; refine ⟨_, rfl, ?_⟩; have n0_ := Aside0.mk (Kd.S_below (by exact HO_1.out) hb); have n1_ := Aside0.mk (below_step (by exact HB.out) hb); clear HO_1; clear HB; have HO_1 := n0_; have HB := n1_; clear n0_ n1_; (try clear hb); ))
            go_ret
            exact ⟨by rfl, by exact HB.out⟩
        · rw [if_neg c15] at H
          have c15b0 : (t291 == 0) = false := beq_eq_false_iff_ne.mpr c15
          have c15b1 : (t291 != 0) = true := bne_iff_ne.mpr c15
          obtain rfl := Option.some.inj H
          obtain ⟨Ao27, co27, eo27⟩ := Kd.S_slice HO_1.out
          subst eo27
          go_wp2_with (first | ((with_reducible refine gate_callee (f := 22) rfl ?_); refine goesL_ (some 33) rfl rfl Tryz.func22 (by kernel_rfl) rfl #[.slice Ao27 t282.length co27, .int .i64 4] rfl (by (try simp only [List.map_toArray, List.map_cons, List.map_nil]); rfl) ?_; (with_reducible refine (sexp_Text.calls kj1 _ _ t282 4 t290 t291 _ ?side1 ?side2 A13.out).mono ?_); (case side1 => repeat (exact (Kd.S_reads' HO_1.out).2.2)); (case side2 => exact (Kd.S_reads' HO_1.out).2.1); rintro e w28 ⟨rfl, hb⟩; refine ⟨_, rfl, ?_⟩; have n0_ := Aside0.mk (Kd.S_below (by exact HO_1.out) hb); have n1_ := Aside0.mk (below_step (by exact HB.out) hb); clear HO_1; clear HB; have HO_1 := n0_; have HB := n1_; clear n0_ n1_; (try clear hb); ) | ((with_reducible refine gate_callee (f := 9) rfl ?_); refine goesL_ (some 38) rfl rfl Tryz.func9 (by kernel_rfl) rfl #[.slice Ao27 t282.length co27, .int .i64 4] rfl (by (try simp only [List.map_toArray, List.map_cons, List.map_nil]); rfl) ?_; (with_reducible refine (sexp_Depth.calls kj1 _ _ t282 4 t292 t293 _ ?side1 ?side2 A14.out).mono ?_); (case side1 => repeat (exact (Kd.S_reads' HO_1.out).2.2)); (case side2 => exact (Kd.S_reads' HO_1.out).2.1); rintro e w29 ⟨rfl, hb⟩; refine ⟨_, rfl, ?_⟩; have n0_ := Aside0.mk (Kd.S_below (by exact HO_1.out) hb); have n1_ := Aside0.mk (below_step (by exact HB.out) hb); clear HO_1; clear HB; have HO_1 := n0_; have HB := n1_; clear n0_ n1_; (try clear hb); ))
          go_ret
          exact ⟨by rfl, by exact HB.out⟩
end
section
open Go.RowKit Go.Proofs.YthklnopfgoekeaaGreatDoorW.PrintWords Go.Proofs.YthklnopfgoekeaaGreatDoorW.PrintLast Go.Proofs.YthklnopfgoekeaaGreatDoorW.PrintMore
set_option linter.unusedVariables false
abbrev aliveText : ByteArray := ⟨#[40, 97, 32, 40, 98, 41, 32, 40, 41, 41]⟩
def aliveToks : List S37 := [⟨1, ⟨#[40]⟩, false, 1, 1⟩, ⟨8, ⟨#[97]⟩, false, 1, 2⟩, ⟨1, ⟨#[40]⟩, false, 1, 4⟩, ⟨8, ⟨#[98]⟩, false, 1, 5⟩, ⟨2, ⟨#[41]⟩, false, 1, 6⟩, ⟨1, ⟨#[40]⟩, false, 1, 8⟩, ⟨2, ⟨#[41]⟩, false, 1, 9⟩, ⟨2, ⟨#[41]⟩, false, 1, 10⟩]
def aliveNodes : List S56 := [⟨1, ⟨8, ⟨#[97]⟩, false, 1, 2⟩, []⟩, ⟨1, ⟨8, ⟨#[98]⟩, false, 1, 5⟩, []⟩, ⟨2, ⟨1, ⟨#[40]⟩, false, 1, 4⟩, [1]⟩, ⟨2, ⟨1, ⟨#[40]⟩, false, 1, 8⟩, []⟩, ⟨2, ⟨1, ⟨#[40]⟩, false, 1, 1⟩, [0, 2, 3]⟩]
theorem alive_scan : lexis_Scan.f aliveText = some (aliveToks, 0, 0, 0) := by kernel_rfl
theorem alive_parse : sexp_Parse.f aliveToks = some (aliveNodes, [4], 0, 0, 0) := by kernel_rfl
theorem alive_text : sexp_Text.f 40 aliveNodes 4 = some (aliveText, 0) := by kernel_rfl
theorem alive_depth : sexp_Depth.f 40 aliveNodes 4 = some (2, 0) := by kernel_rfl
theorem alive_list : aliveText.toList = ([40, 97, 32, 40, 98, 41, 32, 40, 41, 41] : List UInt8) := by kernel_rfl
theorem sexp_Text.upto (k j : Nat) {l : List S56} {i : Int} {r : ByteArray × Int} (h : sexp_Text.f k l i = some r) : sexp_Text.f (k + j) l i = some r := by
  induction j with
  | zero => exact h
  | succ j ih => exact sexp_Text.mono l i (k + j) r ih
theorem sexp_Depth.upto (k j : Nat) {l : List S56} {i : Int} {r : Int × Int} (h : sexp_Depth.f k l i = some r) : sexp_Depth.f (k + j) l i = some r := by
  induction j with
  | zero => exact h
  | succ j ih => exact sexp_Depth.mono l i (k + j) r ih
theorem alive_told : tribunallaw07_alive.f 42 = some true := by
  have hr : tribunallaw07_read.f aliveText = some (aliveNodes, [4], 0) := by
    unfold tribunallaw07_read.f
    rw [alive_scan, Option.bind_some, if_pos rfl, alive_parse, Option.bind_some]
  unfold tribunallaw07_alive.f
  rw [hr, Option.bind_some]
  have h1 : (([4] : List Int).length : Int) = 1 := rfl
  have h2 : rd ([4] : List Int) 0 = 4 := rfl
  have h3 : ((aliveNodes.length : Int) != 5) = false := rfl
  dsimp only
  rw [if_pos rfl, if_pos h1, if_pos (by decide), if_pos h2, h3]
  show tribunallaw07_alive.j0 (41 + 1) aliveNodes false = _
  rw [tribunallaw07_alive.j0, if_neg (by decide), sexp_Text.upto 40 1 alive_text, Option.bind_some, sexp_Depth.upto 40 1 alive_depth, Option.bind_some]
  dsimp only
  rw [if_pos rfl, if_pos rfl, if_pos alive_list]
  rfl
theorem alive_more : ∀ n, tribunallaw07_alive.f (42 + n) = some true
  | 0 => alive_told
  | n + 1 => tribunallaw07_alive.mono (42 + n) true (alive_more n)
end
end Go.Proofs.YthklnopfgoekeaaGreatDoor.X
