-- written by this session's wip/pr.py, which runs the kit's printer
import Derived.Test.YthklnopfgoekeaaGreatDoorX0
import Derived.Test.YthklnopfgoekeaaGreatDoorX2
import Derived.Test.YthklnopfgoekeaaGreatDoorHSimple
namespace Go.Proofs.YthklnopfgoekeaaGreatDoor.X
open Go.RowKit Go.Proofs.YthklnopfgoekeaaGreatDoorW.PrintWords Go.Proofs.YthklnopfgoekeaaGreatDoorW.PrintLast Go.Proofs.YthklnopfgoekeaaGreatDoorW.PrintMore
attribute [local go_sem] max2_int min2_int max_two min_two max_three min_three max_four min_four   -- for this text's walks alone
set_option linter.unusedVariables false
set_option linter.unusedSimpArgs false

/-! ### lexis_class: function 32 -/
def lexis_class.j0 : Nat → Int → Int → Bool → Option (Int)
  | 0, _, _, _ => none
  | k + 1, x0, x3, x14 => if x14 = true then (some 3) else (if x3 = 35 then (some 5) else (if x3 = 34 then (some 6) else (if x3 = 124 then (some 7) else (if x3 = 58 then (some 8) else ((lexis_digit.f x0).bind fun t486 => (if t486 = true then (some 4) else ((lexis_simple.f x0).bind fun t487 => (if t487 = true then (some 9) else (some 0)))))))))
def lexis_class.f (k : Nat) (a0 : Int) : Option (Int) := if a0 = 9 then (some 1) else (if a0 = 10 then (some 1) else (if a0 = 13 then (some 1) else (if a0 = 32 then (some 1) else (if a0 = 59 then (some 2) else (if a0 = 40 then (lexis_class.j0 k a0 a0 (a0 == 40)) else (lexis_class.j0 k a0 a0 (a0 == 41)))))))
theorem lexis_class.mono_l : ∀ k, (∀ y0 y1 y2, LeO (lexis_class.j0 k y0 y1 y2) (lexis_class.j0 (k + 1) y0 y1 y2))
  | 0 => fun _ _ _ r h => by simp [lexis_class.j0] at h
  | k + 1 => by
    have ih0 := lexis_class.mono_l k
    · intro y0 y1 y2
      unfold lexis_class.j0
      repeat' first
      | (with_reducible exact LeO.refl _)
theorem lexis_class.mono : ∀ a0 k, LeO (lexis_class.f k a0) (lexis_class.f (k + 1) a0) := by
  intro a0 k
  have ih0 := lexis_class.mono_l k
  unfold lexis_class.f
  repeat' first
      | (with_reducible exact ih0 _ _ _)
      | (with_reducible exact LeO.refl _)
      | (with_reducible refine LeO.ite ?_ ?_)
set_option maxHeartbeats 8000000 in
set_option maxRecDepth 100000 in
theorem lexis_class.calls (k : Nat) (a0 : Int) (r : Int) (w : World) (h : lexis_class.f k a0 = some r) :
    Calls Tryz.prog 51 #[.int .u8 a0] w fun e w' => e = .returned (.int .i64 r) ∧ Below w.heap.size w w' := by
  have HB := Aside0.mk (Below.refl w.heap.size w)
  have H : (if a0 = 9 then (some 1) else (if a0 = 10 then (some 1) else (if a0 = 13 then (some 1) else (if a0 = 32 then (some 1) else (if a0 = 59 then (some 2) else (if a0 = 40 then (lexis_class.j0 k a0 a0 (a0 == 40)) else (lexis_class.j0 k a0 a0 (a0 == 41)))))))) = some r := h
  clear h
  by_cases c2 : a0 = 9
  · rw [if_pos c2] at H
    have c2b0 : (a0 == 9) = true := beq_iff_eq.mpr c2
    have c2b1 : (a0 != 9) = false := bne_eq_false_iff_eq.mpr c2
    clear c2
    obtain rfl := Option.some.inj H
    go_enter Tryz.func51, Tryz.ntmps51
    go_wp2
    go_ret
    exact ⟨by rfl, by exact HB.out⟩
  · rw [if_neg c2] at H
    have c2b0 : (a0 == 9) = false := beq_eq_false_iff_ne.mpr c2
    have c2b1 : (a0 != 9) = true := bne_iff_ne.mpr c2
    by_cases c3 : a0 = 10
    · rw [if_pos c3] at H
      have c3b0 : (a0 == 10) = true := beq_iff_eq.mpr c3
      have c3b1 : (a0 != 10) = false := bne_eq_false_iff_eq.mpr c3
      clear c3
      obtain rfl := Option.some.inj H
      go_enter Tryz.func51, Tryz.ntmps51
      go_wp2
      go_ret
      exact ⟨by rfl, by exact HB.out⟩
    · rw [if_neg c3] at H
      have c3b0 : (a0 == 10) = false := beq_eq_false_iff_ne.mpr c3
      have c3b1 : (a0 != 10) = true := bne_iff_ne.mpr c3
      by_cases c4 : a0 = 13
      · rw [if_pos c4] at H
        have c4b0 : (a0 == 13) = true := beq_iff_eq.mpr c4
        have c4b1 : (a0 != 13) = false := bne_eq_false_iff_eq.mpr c4
        clear c4
        obtain rfl := Option.some.inj H
        go_enter Tryz.func51, Tryz.ntmps51
        go_wp2
        go_ret
        exact ⟨by rfl, by exact HB.out⟩
      · rw [if_neg c4] at H
        have c4b0 : (a0 == 13) = false := beq_eq_false_iff_ne.mpr c4
        have c4b1 : (a0 != 13) = true := bne_iff_ne.mpr c4
        by_cases c5 : a0 = 32
        · rw [if_pos c5] at H
          have c5b0 : (a0 == 32) = true := beq_iff_eq.mpr c5
          have c5b1 : (a0 != 32) = false := bne_eq_false_iff_eq.mpr c5
          clear c5
          obtain rfl := Option.some.inj H
          go_enter Tryz.func51, Tryz.ntmps51
          go_wp2
          go_ret
          exact ⟨by rfl, by exact HB.out⟩
        · rw [if_neg c5] at H
          have c5b0 : (a0 == 32) = false := beq_eq_false_iff_ne.mpr c5
          have c5b1 : (a0 != 32) = true := bne_iff_ne.mpr c5
          by_cases c6 : a0 = 59
          · rw [if_pos c6] at H
            have c6b0 : (a0 == 59) = true := beq_iff_eq.mpr c6
            have c6b1 : (a0 != 59) = false := bne_eq_false_iff_eq.mpr c6
            clear c6
            obtain rfl := Option.some.inj H
            go_enter Tryz.func51, Tryz.ntmps51
            go_wp2
            go_ret
            exact ⟨by rfl, by exact HB.out⟩
          · rw [if_neg c6] at H
            have c6b0 : (a0 == 59) = false := beq_eq_false_iff_ne.mpr c6
            have c6b1 : (a0 != 59) = true := bne_iff_ne.mpr c6
            have HC7 := Aside0.mk H
            clear H
            go_enter Tryz.func51, Tryz.ntmps51
            go_upto_if 14 with (fail)
            go_cut [14] (fun v14 wc => ∃ (kq : Nat) (x14_6 : Bool), v14 = .bool x14_6 ∧ Aside0 (lexis_class.j0 kq a0 a0 x14_6 = some r) ∧ Aside0 (kq ≤ k) ∧ Aside0 (Below w.heap.size w wc))
            case first =>
              have H := HC7.out
              clear HC7
              by_cases c8 : a0 = 40
              · rw [if_pos c8] at H
                have c8b0 : (a0 == 40) = true := beq_iff_eq.mpr c8
                have c8b1 : (a0 != 40) = false := bne_eq_false_iff_eq.mpr c8
                clear c8
                (rw [c8b0])
                have H' := Aside0.mk H
                clear H
                go_wp2
                go_meet
                case rel => exact ⟨_, ((a0 == 40)), (by ((simp [*]; done))), H', ⟨by omega⟩, ⟨by exact HB.out⟩⟩
              · rw [if_neg c8] at H
                have c8b0 : (a0 == 40) = false := beq_eq_false_iff_ne.mpr c8
                have c8b1 : (a0 != 40) = true := bne_iff_ne.mpr c8
                (rw [c8b0])
                have H' := Aside0.mk H
                clear H
                go_wp2
                go_meet
                case rel => exact ⟨_, ((a0 == 41)), (by rfl), H', ⟨by omega⟩, ⟨by exact HB.out⟩⟩
            case rest =>
              clear HC7
              try clear c2
              try clear c2b0
              try clear c2b1
              try clear c3
              try clear c3b0
              try clear c3b1
              try clear c4
              try clear c4b0
              try clear c4b1
              try clear c5
              try clear c5b0
              try clear c5b1
              try clear c6
              try clear c6b0
              try clear c6b1
              obtain ⟨kq, x14_6, rfl, HA, HJ6, HB⟩ := hcut
              cases kq with
              | zero => exact absurd HA.out (by simp [lexis_class.j0])
              | succ kj6 =>
                have H := HA.out
                clear HA
                simp only [lexis_class.j0] at H
                by_cases c9 : x14_6 = true
                · subst c9
                  have H1 : (some 3) = some r := by rw [if_pos rfl] at H; exact H
                  clear H
                  have H := H1
                  clear H1
                  obtain rfl := Option.some.inj H
                  go_wp2
                  go_ret
                  exact ⟨by rfl, by exact HB.out⟩
                · replace c9 := Bool.eq_false_iff.mpr c9
                  subst c9
                  have H1 : (if a0 = 35 then (some 5) else (if a0 = 34 then (some 6) else (if a0 = 124 then (some 7) else (if a0 = 58 then (some 8) else ((lexis_digit.f a0).bind fun t486 => (if t486 = true then (some 4) else ((lexis_simple.f a0).bind fun t487 => (if t487 = true then (some 9) else (some 0))))))))) = some r := by rw [if_neg (show ¬ (false = true) by decide)] at H; exact H
                  clear H
                  have H := H1
                  clear H1
                  by_cases c10 : a0 = 35
                  · rw [if_pos c10] at H
                    have c10b0 : (a0 == 35) = true := beq_iff_eq.mpr c10
                    have c10b1 : (a0 != 35) = false := bne_eq_false_iff_eq.mpr c10
                    clear c10
                    obtain rfl := Option.some.inj H
                    go_wp2
                    go_ret
                    exact ⟨by rfl, by exact HB.out⟩
                  · rw [if_neg c10] at H
                    have c10b0 : (a0 == 35) = false := beq_eq_false_iff_ne.mpr c10
                    have c10b1 : (a0 != 35) = true := bne_iff_ne.mpr c10
                    by_cases c11 : a0 = 34
                    · rw [if_pos c11] at H
                      have c11b0 : (a0 == 34) = true := beq_iff_eq.mpr c11
                      have c11b1 : (a0 != 34) = false := bne_eq_false_iff_eq.mpr c11
                      clear c11
                      obtain rfl := Option.some.inj H
                      go_wp2
                      go_ret
                      exact ⟨by rfl, by exact HB.out⟩
                    · rw [if_neg c11] at H
                      have c11b0 : (a0 == 34) = false := beq_eq_false_iff_ne.mpr c11
                      have c11b1 : (a0 != 34) = true := bne_iff_ne.mpr c11
                      by_cases c12 : a0 = 124
                      · rw [if_pos c12] at H
                        have c12b0 : (a0 == 124) = true := beq_iff_eq.mpr c12
                        have c12b1 : (a0 != 124) = false := bne_eq_false_iff_eq.mpr c12
                        clear c12
                        obtain rfl := Option.some.inj H
                        go_wp2
                        go_ret
                        exact ⟨by rfl, by exact HB.out⟩
                      · rw [if_neg c12] at H
                        have c12b0 : (a0 == 124) = false := beq_eq_false_iff_ne.mpr c12
                        have c12b1 : (a0 != 124) = true := bne_iff_ne.mpr c12
                        by_cases c13 : a0 = 58
                        · rw [if_pos c13] at H
                          have c13b0 : (a0 == 58) = true := beq_iff_eq.mpr c13
                          have c13b1 : (a0 != 58) = false := bne_eq_false_iff_eq.mpr c13
                          clear c13
                          obtain rfl := Option.some.inj H
                          go_wp2
                          go_ret
                          exact ⟨by rfl, by exact HB.out⟩
                        · rw [if_neg c13] at H
                          have c13b0 : (a0 == 58) = false := beq_eq_false_iff_ne.mpr c13
                          have c13b1 : (a0 != 58) = true := bne_iff_ne.mpr c13
                          replace H := Option.bind_eq_some_iff.mp H
                          obtain ⟨t486, A140, H⟩ := H
                          replace H : (if t486 = true then (some 4) else ((lexis_simple.f a0).bind fun t487 => (if t487 = true then (some 9) else (some 0)))) = some r := H
                          have A14 := Aside0.mk A140
                          clear A140
                          by_cases c15 : t486 = true
                          · subst c15
                            have H1 : (some 4) = some r := by rw [if_pos rfl] at H; exact H
                            clear H
                            have H := H1
                            clear H1
                            obtain rfl := Option.some.inj H
                            go_wp2_with ((((with_reducible refine gate_callee (f := 72) rfl ?_); refine goesL_ (some 27) rfl rfl Tryz.func72 (by kernel_rfl) rfl #[.int .u8 a0] rfl (by (try simp only [List.map_toArray, List.map_cons, List.map_nil]); rfl) ?_; (with_reducible refine (lexis_digit.calls a0 true _ A14.out).mono ?_); rintro e w' ⟨rfl, ⟨nd, rfl⟩⟩; refine ⟨_, rfl, ?_⟩)))
                            go_ret
                            exact ⟨by rfl, by repeat ((with_reducible first | exact HB.out | apply pw_below_drewN))⟩
                          · replace c15 := Bool.eq_false_iff.mpr c15
                            subst c15
                            have H1 : ((lexis_simple.f a0).bind fun t487 => (if t487 = true then (some 9) else (some 0))) = some r := by rw [if_neg (show ¬ (false = true) by decide)] at H; exact H
                            clear H
                            have H := H1
                            clear H1
                            replace H := Option.bind_eq_some_iff.mp H
                            obtain ⟨t487, A160, H⟩ := H
                            replace H : (if t487 = true then (some 9) else (some 0)) = some r := H
                            have A16 := Aside0.mk A160
                            clear A160
                            by_cases c17 : t487 = true
                            · subst c17
                              have H1 : (some 9) = some r := by rw [if_pos rfl] at H; exact H
                              clear H
                              have H := H1
                              clear H1
                              obtain rfl := Option.some.inj H
                              go_wp2_with (first | ((with_reducible refine gate_callee (f := 72) rfl ?_); refine goesL_ (some 27) rfl rfl Tryz.func72 (by kernel_rfl) rfl #[.int .u8 a0] rfl (by (try simp only [List.map_toArray, List.map_cons, List.map_nil]); rfl) ?_; (with_reducible refine (lexis_digit.calls a0 false _ A14.out).mono ?_); rintro e w' ⟨rfl, ⟨nd, rfl⟩⟩; refine ⟨_, rfl, ?_⟩) | ((with_reducible refine gate_callee (f := 73) rfl ?_); refine goesL_ (some 30) rfl rfl Tryz.func73 (by kernel_rfl) rfl #[.int .u8 a0] rfl (by (try simp only [List.map_toArray, List.map_cons, List.map_nil]); rfl) ?_; (with_reducible refine (lexis_simple.calls a0 true _ A16.out).mono ?_); rintro e w18 ⟨rfl, hb⟩; refine ⟨_, rfl, ?_⟩; have n0_ := Aside0.mk (below_step (by repeat ((with_reducible first | exact HB.out | apply pw_below_drewN))) hb); clear HB; have HB := n0_; clear n0_; (try clear hb); ))
                              go_ret
                              exact ⟨by rfl, by exact HB.out⟩
                            · replace c17 := Bool.eq_false_iff.mpr c17
                              subst c17
                              have H1 : (some 0) = some r := by rw [if_neg (show ¬ (false = true) by decide)] at H; exact H
                              clear H
                              have H := H1
                              clear H1
                              obtain rfl := Option.some.inj H
                              go_wp2_with (first | ((with_reducible refine gate_callee (f := 72) rfl ?_); refine goesL_ (some 27) rfl rfl Tryz.func72 (by kernel_rfl) rfl #[.int .u8 a0] rfl (by (try simp only [List.map_toArray, List.map_cons, List.map_nil]); rfl) ?_; (with_reducible refine (lexis_digit.calls a0 false _ A14.out).mono ?_); rintro e w' ⟨rfl, ⟨nd, rfl⟩⟩; refine ⟨_, rfl, ?_⟩) | ((with_reducible refine gate_callee (f := 73) rfl ?_); refine goesL_ (some 30) rfl rfl Tryz.func73 (by kernel_rfl) rfl #[.int .u8 a0] rfl (by (try simp only [List.map_toArray, List.map_cons, List.map_nil]); rfl) ?_; (with_reducible refine (lexis_simple.calls a0 false _ A16.out).mono ?_); rintro e w19 ⟨rfl, hb⟩; refine ⟨_, rfl, ?_⟩; have n0_ := Aside0.mk (below_step (by repeat ((with_reducible first | exact HB.out | apply pw_below_drewN))) hb); clear HB; have HB := n0_; clear n0_; (try clear hb); ))
                              go_ret
                              exact ⟨by rfl, by exact HB.out⟩

/-! ### lexis_printable: function 74 -/
def lexis_printable.f (k : Nat) (a0 : Int) : Option (Bool) := if a0 ≥ 32 then (if a0 ≤ 126 then (some true) else (if a0 ≥ 128 then (some true) else ((lexis_class.f k a0).bind fun t488 => (some (t488 == 1))))) else (if a0 ≥ 128 then (some true) else ((lexis_class.f k a0).bind fun t489 => (some (t489 == 1))))
theorem lexis_printable.mono : ∀ a0 k, LeO (lexis_printable.f k a0) (lexis_printable.f (k + 1) a0) := by
  intro a0 k
  unfold lexis_printable.f
  repeat' first
      | (with_reducible exact lexis_class.mono _ _)
      | (with_reducible exact LeO.refl _)
      | (with_reducible refine LeO.ite ?_ ?_)
      | (with_reducible refine LeO.bind ?_ (fun _ => ?_))
set_option maxHeartbeats 8000000 in
set_option maxRecDepth 100000 in
theorem lexis_printable.calls (k : Nat) (a0 : Int) (r : Bool) (w : World) (h : lexis_printable.f k a0 = some r) :
    Calls Tryz.prog 36 #[.int .u8 a0] w fun e w' => e = .returned (.bool r) ∧ Below w.heap.size w w' := by
  have HB := Aside0.mk (Below.refl w.heap.size w)
  have H : (if a0 ≥ 32 then (if a0 ≤ 126 then (some true) else (if a0 ≥ 128 then (some true) else ((lexis_class.f k a0).bind fun t488 => (some (t488 == 1))))) else (if a0 ≥ 128 then (some true) else ((lexis_class.f k a0).bind fun t489 => (some (t489 == 1))))) = some r := h
  clear h
  by_cases c2 : a0 ≥ 32
  · rw [if_pos c2] at H
    have c2b0 : decide (32 ≤ a0) = true := decide_eq_true c2
    clear c2
    by_cases c3 : a0 ≤ 126
    · rw [if_pos c3] at H
      have c3b0 : decide (a0 ≤ 126) = true := decide_eq_true c3
      clear c3
      obtain rfl := Option.some.inj H
      go_enter Tryz.func36, Tryz.ntmps36
      go_wp2
      go_ret
      exact ⟨by rfl, by exact HB.out⟩
    · rw [if_neg c3] at H
      have c3b0 : decide (a0 ≤ 126) = false := decide_eq_false c3
      clear c3
      by_cases c4 : a0 ≥ 128
      · rw [if_pos c4] at H
        have c4b0 : decide (128 ≤ a0) = true := decide_eq_true c4
        clear c4
        obtain rfl := Option.some.inj H
        go_enter Tryz.func36, Tryz.ntmps36
        go_wp2
        go_ret
        exact ⟨by rfl, by exact HB.out⟩
      · rw [if_neg c4] at H
        have c4b0 : decide (128 ≤ a0) = false := decide_eq_false c4
        clear c4
        replace H := Option.bind_eq_some_iff.mp H
        obtain ⟨t488, A50, H⟩ := H
        replace H : (some (t488 == 1)) = some r := H
        have A5 := Aside0.mk A50
        clear A50
        obtain rfl := Option.some.inj H
        go_enter Tryz.func36, Tryz.ntmps36
        go_wp2_with (((go_at_call 51; (with_reducible refine (lexis_class.calls k a0 t488 _ A5.out).mono ?_); rintro e w6 ⟨rfl, hb⟩; have n0_ := Aside0.mk (below_step (by exact HB.out) hb); clear HB; have HB := n0_; clear n0_; (try clear hb); )))
        go_ret
        exact ⟨by rfl, by exact HB.out⟩
  · rw [if_neg c2] at H
    have c2b0 : decide (32 ≤ a0) = false := decide_eq_false c2
    clear c2
    by_cases c7 : a0 ≥ 128
    · rw [if_pos c7] at H
      have c7b0 : decide (128 ≤ a0) = true := decide_eq_true c7
      clear c7
      obtain rfl := Option.some.inj H
      go_enter Tryz.func36, Tryz.ntmps36
      go_wp2
      go_ret
      exact ⟨by rfl, by exact HB.out⟩
    · rw [if_neg c7] at H
      have c7b0 : decide (128 ≤ a0) = false := decide_eq_false c7
      clear c7
      replace H := Option.bind_eq_some_iff.mp H
      obtain ⟨t489, A80, H⟩ := H
      replace H : (some (t489 == 1)) = some r := H
      have A8 := Aside0.mk A80
      clear A80
      obtain rfl := Option.some.inj H
      go_enter Tryz.func36, Tryz.ntmps36
      go_wp2_with (((go_at_call 51; (with_reducible refine (lexis_class.calls k a0 t489 _ A8.out).mono ?_); rintro e w9 ⟨rfl, hb⟩; have n0_ := Aside0.mk (below_step (by exact HB.out) hb); clear HB; have HB := n0_; clear n0_; (try clear hb); )))
      go_ret
      exact ⟨by rfl, by exact HB.out⟩

/-! ### lexis_scanner_comments_1: function 67 -/
def lexis_scanner_comments_1.f (a0 : Int) : Option (Bool) := some (a0 != 10)
set_option maxHeartbeats 8000000 in
set_option maxRecDepth 100000 in
theorem lexis_scanner_comments_1.calls (a0 : Int) (r : Bool) (w : World) (h : lexis_scanner_comments_1.f a0 = some r) :
    Calls Tryz.prog 89 #[.int .u8 a0] w fun e w' => e = .returned (.bool r) ∧ Drawn0 w w' := by
  have H : (some (a0 != 10)) = some r := h
  clear h
  obtain rfl := Option.some.inj H
  go_enter Tryz.func89, Tryz.ntmps89
  go_wp2
  go_ret
  exact ⟨by rfl, by repeat (exact Drawn0.refl _)⟩

/-! ### lexis_scanner_hashes_1: function 70 -/
def lexis_scanner_hashes_1.f (a0 : Int) : Option (Bool) := if a0 = 48 then (some true) else (some (a0 == 49))
set_option maxHeartbeats 8000000 in
set_option maxRecDepth 100000 in
theorem lexis_scanner_hashes_1.calls (a0 : Int) (r : Bool) (w : World) (h : lexis_scanner_hashes_1.f a0 = some r) :
    Calls Tryz.prog 92 #[.int .u8 a0] w fun e w' => e = .returned (.bool r) ∧ Drawn0 w w' := by
  have H : (if a0 = 48 then (some true) else (some (a0 == 49))) = some r := h
  clear h
  by_cases c2 : a0 = 48
  · rw [if_pos c2] at H
    have c2b0 : (a0 == 48) = true := beq_iff_eq.mpr c2
    have c2b1 : (a0 != 48) = false := bne_eq_false_iff_eq.mpr c2
    clear c2
    obtain rfl := Option.some.inj H
    go_enter Tryz.func92, Tryz.ntmps92
    go_wp2
    go_ret
    exact ⟨by rfl, by repeat (exact Drawn0.refl _)⟩
  · rw [if_neg c2] at H
    have c2b0 : (a0 == 48) = false := beq_eq_false_iff_ne.mpr c2
    have c2b1 : (a0 != 48) = true := bne_iff_ne.mpr c2
    obtain rfl := Option.some.inj H
    go_enter Tryz.func92, Tryz.ntmps92
    go_wp2
    go_ret
    exact ⟨by rfl, by repeat (exact Drawn0.refl _)⟩

/-! ### lexis_scanner_hashes_2: function 71 -/
def lexis_scanner_hashes_2.f (a0 : Int) : Option (Bool) := (lexis_digit.f a0).bind fun t541 => (if t541 = true then (some true) else (if (Go.bits .or .u8 a0 32) ≥ 97 then (some (decide ((Go.bits .or .u8 a0 32) ≤ 102))) else (some false)))
set_option maxHeartbeats 8000000 in
set_option maxRecDepth 100000 in
theorem lexis_scanner_hashes_2.calls (a0 : Int) (r : Bool) (w : World) (h : lexis_scanner_hashes_2.f a0 = some r) :
    Calls Tryz.prog 93 #[.int .u8 a0] w fun e w' => e = .returned (.bool r) ∧ Drawn0 w w' := by
  have H : ((lexis_digit.f a0).bind fun t541 => (if t541 = true then (some true) else (if (Go.bits .or .u8 a0 32) ≥ 97 then (some (decide ((Go.bits .or .u8 a0 32) ≤ 102))) else (some false)))) = some r := h
  clear h
  replace H := Option.bind_eq_some_iff.mp H
  obtain ⟨t541, A20, H⟩ := H
  replace H : (if t541 = true then (some true) else (if (Go.bits .or .u8 a0 32) ≥ 97 then (some (decide ((Go.bits .or .u8 a0 32) ≤ 102))) else (some false))) = some r := H
  have A2 := Aside0.mk A20
  clear A20
  by_cases c3 : t541 = true
  · subst c3
    have H1 : (some true) = some r := by rw [if_pos rfl] at H; exact H
    clear H
    have H := H1
    clear H1
    obtain rfl := Option.some.inj H
    go_enter Tryz.func93, Tryz.ntmps93
    go_wp2_with ((((with_reducible refine gate_callee (f := 72) rfl ?_); refine goesL_ (some 4) rfl rfl Tryz.func72 (by kernel_rfl) rfl #[.int .u8 a0] rfl (by (try simp only [List.map_toArray, List.map_cons, List.map_nil]); rfl) ?_; (with_reducible refine (lexis_digit.calls a0 true _ A2.out).mono ?_); rintro e w' ⟨rfl, ⟨nd, rfl⟩⟩; refine ⟨_, rfl, ?_⟩)))
    go_ret
    exact ⟨by rfl, by repeat (first | exact Drawn0.refl _ | apply Drawn0.step)⟩
  · replace c3 := Bool.eq_false_iff.mpr c3
    subst c3
    have H1 : (if (Go.bits .or .u8 a0 32) ≥ 97 then (some (decide ((Go.bits .or .u8 a0 32) ≤ 102))) else (some false)) = some r := by rw [if_neg (show ¬ (false = true) by decide)] at H; exact H
    clear H
    have H := H1
    clear H1
    by_cases c4 : (Go.bits .or .u8 a0 32) ≥ 97
    · rw [if_pos c4] at H
      have c4b0 : decide (97 ≤ (Go.bits .or .u8 a0 32)) = true := decide_eq_true c4
      clear c4
      obtain rfl := Option.some.inj H
      go_enter Tryz.func93, Tryz.ntmps93
      go_wp2_with ((((with_reducible refine gate_callee (f := 72) rfl ?_); refine goesL_ (some 4) rfl rfl Tryz.func72 (by kernel_rfl) rfl #[.int .u8 a0] rfl (by (try simp only [List.map_toArray, List.map_cons, List.map_nil]); rfl) ?_; (with_reducible refine (lexis_digit.calls a0 false _ A2.out).mono ?_); rintro e w' ⟨rfl, ⟨nd, rfl⟩⟩; refine ⟨_, rfl, ?_⟩)))
      go_ret
      exact ⟨by rfl, by repeat (first | exact Drawn0.refl _ | apply Drawn0.step)⟩
    · rw [if_neg c4] at H
      have c4b0 : decide (97 ≤ (Go.bits .or .u8 a0 32)) = false := decide_eq_false c4
      clear c4
      obtain rfl := Option.some.inj H
      go_enter Tryz.func93, Tryz.ntmps93
      go_wp2_with ((((with_reducible refine gate_callee (f := 72) rfl ?_); refine goesL_ (some 4) rfl rfl Tryz.func72 (by kernel_rfl) rfl #[.int .u8 a0] rfl (by (try simp only [List.map_toArray, List.map_cons, List.map_nil]); rfl) ?_; (with_reducible refine (lexis_digit.calls a0 false _ A2.out).mono ?_); rintro e w' ⟨rfl, ⟨nd, rfl⟩⟩; refine ⟨_, rfl, ?_⟩)))
      go_ret
      exact ⟨by rfl, by repeat (first | exact Drawn0.refl _ | apply Drawn0.step)⟩

/-! ### lexis_scanner_quotes_1: function 73 -/
def lexis_scanner_quotes_1.f (k : Nat) (a0 : Int) : Option (Bool) := if a0 = 34 then (some false) else ((lexis_printable.f k a0).bind fun t542 => (some t542))
theorem lexis_scanner_quotes_1.mono : ∀ a0 k, LeO (lexis_scanner_quotes_1.f k a0) (lexis_scanner_quotes_1.f (k + 1) a0) := by
  intro a0 k
  unfold lexis_scanner_quotes_1.f
  repeat' first
      | (with_reducible exact lexis_printable.mono _ _)
      | (with_reducible exact LeO.refl _)
      | (with_reducible refine LeO.ite ?_ ?_)
      | (with_reducible refine LeO.bind ?_ (fun _ => ?_))
set_option maxHeartbeats 8000000 in
set_option maxRecDepth 100000 in
theorem lexis_scanner_quotes_1.calls (k : Nat) (a0 : Int) (r : Bool) (w : World) (h : lexis_scanner_quotes_1.f k a0 = some r) :
    Calls Tryz.prog 95 #[.int .u8 a0] w fun e w' => e = .returned (.bool r) ∧ Below w.heap.size w w' := by
  have HB := Aside0.mk (Below.refl w.heap.size w)
  have H : (if a0 = 34 then (some false) else ((lexis_printable.f k a0).bind fun t542 => (some t542))) = some r := h
  clear h
  by_cases c2 : a0 = 34
  · rw [if_pos c2] at H
    have c2b0 : (a0 == 34) = true := beq_iff_eq.mpr c2
    have c2b1 : (a0 != 34) = false := bne_eq_false_iff_eq.mpr c2
    clear c2
    obtain rfl := Option.some.inj H
    go_enter Tryz.func95, Tryz.ntmps95
    go_wp2
    go_ret
    exact ⟨by rfl, by exact HB.out⟩
  · rw [if_neg c2] at H
    have c2b0 : (a0 == 34) = false := beq_eq_false_iff_ne.mpr c2
    have c2b1 : (a0 != 34) = true := bne_iff_ne.mpr c2
    replace H := Option.bind_eq_some_iff.mp H
    obtain ⟨t542, A30, H⟩ := H
    replace H : (some t542) = some r := H
    have A3 := Aside0.mk A30
    clear A30
    obtain rfl := Option.some.inj H
    go_enter Tryz.func95, Tryz.ntmps95
    go_wp2_with (((go_at_call 36; (with_reducible refine (lexis_printable.calls k a0 t542 _ A3.out).mono ?_); rintro e w4 ⟨rfl, hb⟩; have n0_ := Aside0.mk (below_step (by exact HB.out) hb); clear HB; have HB := n0_; clear n0_; (try clear hb); )))
    go_ret
    exact ⟨by rfl, by exact HB.out⟩

/-! ### lexis_scanner_bars_1: function 75 -/
def lexis_scanner_bars_1.f (k : Nat) (a0 : Int) : Option (Bool) := if a0 = 124 then (some false) else (if a0 = 92 then (some false) else ((lexis_printable.f k a0).bind fun t543 => (some t543)))
theorem lexis_scanner_bars_1.mono : ∀ a0 k, LeO (lexis_scanner_bars_1.f k a0) (lexis_scanner_bars_1.f (k + 1) a0) := by
  intro a0 k
  unfold lexis_scanner_bars_1.f
  repeat' first
      | (with_reducible exact lexis_printable.mono _ _)
      | (with_reducible exact LeO.refl _)
      | (with_reducible refine LeO.ite ?_ ?_)
      | (with_reducible refine LeO.bind ?_ (fun _ => ?_))
set_option maxHeartbeats 8000000 in
set_option maxRecDepth 100000 in
theorem lexis_scanner_bars_1.calls (k : Nat) (a0 : Int) (r : Bool) (w : World) (h : lexis_scanner_bars_1.f k a0 = some r) :
    Calls Tryz.prog 96 #[.int .u8 a0] w fun e w' => e = .returned (.bool r) ∧ Below w.heap.size w w' := by
  have HB := Aside0.mk (Below.refl w.heap.size w)
  have H : (if a0 = 124 then (some false) else (if a0 = 92 then (some false) else ((lexis_printable.f k a0).bind fun t543 => (some t543)))) = some r := h
  clear h
  by_cases c2 : a0 = 124
  · rw [if_pos c2] at H
    have c2b0 : (a0 == 124) = true := beq_iff_eq.mpr c2
    have c2b1 : (a0 != 124) = false := bne_eq_false_iff_eq.mpr c2
    clear c2
    obtain rfl := Option.some.inj H
    go_enter Tryz.func96, Tryz.ntmps96
    go_wp2
    go_ret
    exact ⟨by rfl, by exact HB.out⟩
  · rw [if_neg c2] at H
    have c2b0 : (a0 == 124) = false := beq_eq_false_iff_ne.mpr c2
    have c2b1 : (a0 != 124) = true := bne_iff_ne.mpr c2
    by_cases c3 : a0 = 92
    · rw [if_pos c3] at H
      have c3b0 : (a0 == 92) = true := beq_iff_eq.mpr c3
      have c3b1 : (a0 != 92) = false := bne_eq_false_iff_eq.mpr c3
      clear c3
      obtain rfl := Option.some.inj H
      go_enter Tryz.func96, Tryz.ntmps96
      go_wp2
      go_ret
      exact ⟨by rfl, by exact HB.out⟩
    · rw [if_neg c3] at H
      have c3b0 : (a0 == 92) = false := beq_eq_false_iff_ne.mpr c3
      have c3b1 : (a0 != 92) = true := bne_iff_ne.mpr c3
      replace H := Option.bind_eq_some_iff.mp H
      obtain ⟨t543, A40, H⟩ := H
      replace H : (some t543) = some r := H
      have A4 := Aside0.mk A40
      clear A40
      obtain rfl := Option.some.inj H
      go_enter Tryz.func96, Tryz.ntmps96
      go_wp2_with (((go_at_call 36; (with_reducible refine (lexis_printable.calls k a0 t543 _ A4.out).mono ?_); rintro e w5 ⟨rfl, hb⟩; have n0_ := Aside0.mk (below_step (by exact HB.out) hb); clear HB; have HB := n0_; clear n0_; (try clear hb); )))
      go_ret
      exact ⟨by rfl, by exact HB.out⟩

end Go.Proofs.YthklnopfgoekeaaGreatDoor.X
