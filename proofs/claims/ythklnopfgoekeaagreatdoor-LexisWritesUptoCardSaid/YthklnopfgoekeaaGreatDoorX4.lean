-- written by this session's wip/pr.py, which runs the kit's printer
import Derived.Test.YthklnopfgoekeaaGreatDoorX0
import Derived.Test.YthklnopfgoekeaaGreatDoorX2
namespace Go.Proofs.YthklnopfgoekeaaGreatDoor.X
open Go.RowKit Go.Proofs.YthklnopfgoekeaaGreatDoorW.PrintWords Go.Proofs.YthklnopfgoekeaaGreatDoorW.PrintLast Go.Proofs.YthklnopfgoekeaaGreatDoorW.PrintMore
attribute [local go_sem] max2_int min2_int max_two min_two max_three min_three max_four min_four   -- for this text's walks alone
set_option linter.unusedVariables false
set_option linter.unusedSimpArgs false

/-! ### tribunalref06_between: function 57 -/
mutual
def tribunalref06_between.l0 : Nat → ByteArray → Int → ByteArray → Int → Option (Int × ByteArray × Bool × Int × Int × Int)
 | 0, _, _, _, _ => none
 | k + 1, x0, x6, x7, x8 => if x8 < (x0.size : Int) then (if 0 ≤ x8 then (if (bt x0 x8) = x6 then (if x6 = 34 then (if (wrap64 (x8 + 1)) < (x0.size : Int) then (if 0 ≤ (wrap64 (x8 + 1)) then (tribunalref06_between.j1 k x0 x6 x7 x8 ((bt x0 (wrap64 (x8 + 1))) == 34)) else (none)) else (tribunalref06_between.j1 k x0 x6 x7 x8 false)) else (tribunalref06_between.j1 k x0 x6 x7 x8 false)) else (tribunalref06_between.j1 k x0 x6 x7 x8 false)) else (none)) else (some (0, (⟨#[]⟩ : ByteArray), false, 0, 0, 0))
def tribunalref06_between.j1 : Nat → ByteArray → Int → ByteArray → Int → Bool → Option (Int × ByteArray × Bool × Int × Int × Int)
 | 0, _, _, _, _, _ => none
 | k + 1, x0, x6, x7, x8, x42 => if x42 = true then (if x7.size + 1 ≤ 9223372036854775807 then (tribunalref06_between.l0 k x0 x6 (x7 ++ (⟨#[34]⟩ : ByteArray)) (wrap64 ((wrap64 (x8 + 1)) + 1))) else (none)) else (if 0 ≤ x8 then (if x8 < (x0.size : Int) then (if (bt x0 x8) = x6 then (if x6 = 34 then (some (7, x7, false, 0, 0, wrap64 (x8 + 1))) else (some (8, x7, true, 0, 0, wrap64 (x8 + 1)))) else ((tribunalref06_Inner.f (bt x0 x8)).bind fun t501 => (if t501 = true then (if x6 = 124 then (if (bt x0 x8) = 92 then (some (0, (⟨#[]⟩ : ByteArray), false, 0, 0, 0)) else (if x8 ≤ (wrap64 (x8 + 1)) then (if (wrap64 (x8 + 1)) ≤ (x0.size : Int) then (if x7.size + (x0.extract (x8 : Int).toNat ((wrap64 (x8 + 1)) : Int).toNat).size ≤ 9223372036854775807 then (tribunalref06_between.l0 k x0 x6 (x7 ++ (x0.extract (x8 : Int).toNat ((wrap64 (x8 + 1)) : Int).toNat)) (wrap64 (x8 + 1))) else (none)) else (none)) else (none))) else (if x8 ≤ (wrap64 (x8 + 1)) then (if (wrap64 (x8 + 1)) ≤ (x0.size : Int) then (if x7.size + (x0.extract (x8 : Int).toNat ((wrap64 (x8 + 1)) : Int).toNat).size ≤ 9223372036854775807 then (tribunalref06_between.l0 k x0 x6 (x7 ++ (x0.extract (x8 : Int).toNat ((wrap64 (x8 + 1)) : Int).toNat)) (wrap64 (x8 + 1))) else (none)) else (none)) else (none))) else (some (0, (⟨#[]⟩ : ByteArray), false, 0, 0, 0))))) else (none)) else (none))
end
def tribunalref06_between.f (k : Nat) (a0 : ByteArray) (a1 : Int) : Option (Int × ByteArray × Bool × Int × Int × Int) := if 0 ≤ a1 then (if a1 < (a0.size : Int) then (tribunalref06_between.l0 k a0 (bt a0 a1) (⟨#[]⟩ : ByteArray) (wrap64 (a1 + 1))) else (none)) else (none)
theorem tribunalref06_between.mono_l : ∀ k, (∀ y0 y1 y2 y3, LeO (tribunalref06_between.l0 k y0 y1 y2 y3) (tribunalref06_between.l0 (k + 1) y0 y1 y2 y3)) ∧ (∀ y0 y1 y2 y3 y4, LeO (tribunalref06_between.j1 k y0 y1 y2 y3 y4) (tribunalref06_between.j1 (k + 1) y0 y1 y2 y3 y4))
 | 0 => ⟨fun _ _ _ _ r h => by simp [tribunalref06_between.l0] at h, fun _ _ _ _ _ r h => by simp [tribunalref06_between.j1] at h⟩
 | k + 1 => by
  obtain ⟨ih0, ih1⟩ := tribunalref06_between.mono_l k
  refine ⟨?_, ?_⟩
  ·intro y0 y1 y2 y3
   unfold tribunalref06_between.l0
   repeat' first
   | (with_reducible exact ih1 _ _ _ _ _)
   | (with_reducible exact LeO.refl _)
   | (with_reducible refine LeO.ite ?_ ?_)
  ·intro y0 y1 y2 y3 y4
   unfold tribunalref06_between.j1
   repeat' first
   | (with_reducible exact ih0 _ _ _ _)
   | (with_reducible exact LeO.refl _)
   | (with_reducible refine LeO.ite ?_ ?_)
   | (with_reducible refine LeO.bind ?_ (fun _ => ?_))
theorem tribunalref06_between.mono : ∀ a0 a1 k, LeO (tribunalref06_between.f k a0 a1) (tribunalref06_between.f (k + 1) a0 a1) := by
 intro a0 a1 k
 obtain ⟨ih0, ih1⟩ := tribunalref06_between.mono_l k
 unfold tribunalref06_between.f
 repeat' first
  | (with_reducible exact ih0 _ _ _ _)
  | (with_reducible exact LeO.refl _)
  | (with_reducible refine LeO.ite ?_ ?_)
set_option maxHeartbeats 8000000 in
set_option maxRecDepth 100000 in
theorem tribunalref06_between.calls (k : Nat) (a0 : ByteArray) (a1 : Int) (r1 : Int) (r2 : ByteArray) (r3 : Bool) (r4 : Int) (r5 : Int) (r6 : Int) (w : World) (h : tribunalref06_between.f k a0 a1 = some (r1, r2, r3, r4, r5, r6)) :
 Calls Tryz.prog 74 #[.string a0, .int .i64 a1] w fun e w' => e = .returned (.tuple #[.agg #[.int .i64 r1, .string r2, .bool r3, .int .i64 r4, .int .i64 r5], .int .i64 r6]) ∧ Below w.heap.size w w' := by
 have hu38 := Tryz.underlying37
 have HB := Aside0.mk (Below.refl w.heap.size w)
 have H : (if 0 ≤ a1 then (if a1 < (a0.size : Int) then (tribunalref06_between.l0 k a0 (bt a0 a1) (⟨#[]⟩ : ByteArray) (wrap64 (a1 + 1))) else (none)) else (none)) = some (r1, r2, r3, r4, r5, r6) := h
 clear h
 by_cases c3 : 0 ≤ a1
 ·rw [if_pos c3] at H
  have c3b0 : decide (0 ≤ a1) = true := decide_eq_true c3
  clear c3
  by_cases c4 : a1 < (a0.size : Int)
  ·rw [if_pos c4] at H
   have c4b0 : decide (a1 < (a0.size : Int)) = true := decide_eq_true c4
   clear c4
   have H' := Aside0.mk H
   clear H
   go_enter Tryz.func74, Tryz.ntmps74
   go_wp2_with ((((with_reducible refine gate_dst (N := 4) rfl ?_); (try (refine gate_guard (by rfl) ?_; dsimp only)); refine box_event ?hg (N := 4) ?hd (cs := #[.int .i64 0, .string (⟨#[]⟩ : ByteArray), .bool false, .int .i64 0, .int .i64 0]) (t := 37) ?hr ?_; (case hd => rfl); (case hg => rfl); (case hr => ((go_simp; done))); intro gb500 hg w6 hbox hb; have n0_ := Aside0.mk (below_step (by exact HB.out) hb); have n1_ := Aside0.mk (hbox); have n2_ := Aside0.mk ((by rw [hg]; exact (below_size (by exact HB.out)) : w.heap.size ≤ gb500)); have n3_ := Aside0.mk ((by rw [hg]; exact (below_size (by exact HB.out)) : w.heap.size ≤ gb500)); clear HB; have HB := n0_; have BK500 := n1_; have GW500 := n2_; have GE500 := n3_; clear n0_ n1_ n2_ n3_; clear hb hbox hg; have p5 : 0 ≤ (a1 : Int) := of_decide_eq_true (by assumption); have q5 : a1 < (a0.size : Int) := of_decide_eq_true (by assumption); have hx5 := bt_at a0 a1; replace p5 := eq_true p5; replace q5 := eq_true q5)))
   go_loopg [7, 8] k (fun kq v7 v8 w' => ∃ (x7_1 : ByteArray) (x8_1 : Int) (x501000_1 : Int) (x501001_1 : ByteArray) (x501002_1 : Bool) (x501003_1 : Int) (x501004_1 : Int), v7 = .string x7_1 ∧ v8 = .int .i64 x8_1 ∧ Aside0 (tribunalref06_between.l0 kq a0 (bt a0 a1) x7_1 x8_1 = some (r1, r2, r3, r4, r5, r6)) ∧ Aside0 (kq ≤ k) ∧ Aside0 (w'.heap[gb500]? = some (.cells #[.int .i64 x501000_1, .string x501001_1, .bool x501002_1, .int .i64 x501003_1, .int .i64 x501004_1] 37 (0, 0))) ∧ Aside0 (Below w.heap.size w w'))
   case atStart => exact ⟨((⟨#[]⟩ : ByteArray)), (wrap64 (a1 + 1)), (0), ((⟨#[]⟩ : ByteArray)), (false), (0), (0), (by rfl), (by rfl), H', ⟨Nat.le_refl _⟩, ⟨by exact BK500.out⟩, ⟨by exact HB.out⟩⟩
   case round =>
    clear H'
    obtain ⟨x7_1, x8_1, x501000_1, x501001_1, x501002_1, x501003_1, x501004_1, rfl, rfl, HA, HK1, BK500, HB⟩ := hrel
    cases gk with
    | zero => exact absurd HA.out (by simp [tribunalref06_between.l0])
    | succ k1 =>
     have H := HA.out
     clear HA
     simp only [tribunalref06_between.l0] at H
     by_cases c7 : x8_1 < (a0.size : Int)
     ·rw [if_pos c7] at H
      have c7b0 : decide (x8_1 < (a0.size : Int)) = true := decide_eq_true c7
      clear c7
      have HC8 := Aside0.mk H
      clear H
      go_upto_region 6 with (fail)
      go_cut [42] (fun v42 wc => ∃ (kq : Nat) (x42_7 : Bool), v42 = .bool x42_7 ∧ Aside0 (tribunalref06_between.j1 kq a0 (bt a0 a1) x7_1 x8_1 x42_7 = some (r1, r2, r3, r4, r5, r6)) ∧ Aside0 (kq ≤ k1) ∧ Aside0 (wc.heap[gb500]? = some (.cells #[.int .i64 x501000_1, .string x501001_1, .bool x501002_1, .int .i64 x501003_1, .int .i64 x501004_1] 37 (0, 0))) ∧ Aside0 (Below w.heap.size w wc))
      case first =>
       have H := HC8.out
       clear HC8
       by_cases c9 : 0 ≤ x8_1
       ·rw [if_pos c9] at H
        have c9b0 : decide (0 ≤ x8_1) = true := decide_eq_true c9
        clear c9
        (skip)
        by_cases c11 : (bt a0 x8_1) = (bt a0 a1)
        ·rw [if_pos c11] at H
         have c11b0 : ((bt a0 x8_1) == (bt a0 a1)) = true := beq_iff_eq.mpr c11
         have c11b1 : ((bt a0 x8_1) != (bt a0 a1)) = false := bne_eq_false_iff_eq.mpr c11
         clear c11
         by_cases c12 : (bt a0 a1) = 34
         ·rw [if_pos c12] at H
          have c12b0 : ((bt a0 a1) == 34) = true := beq_iff_eq.mpr c12
          have c12b1 : ((bt a0 a1) != 34) = false := bne_eq_false_iff_eq.mpr c12
          clear c12
          by_cases c13 : (wrap64 (x8_1 + 1)) < (a0.size : Int)
          ·rw [if_pos c13] at H
           have c13b0 : decide ((wrap64 (x8_1 + 1)) < (a0.size : Int)) = true := decide_eq_true c13
           clear c13
           obtain ⟨ji14, hji14⟩ : ∃ j_ : Int, (wrap64 (x8_1 + 1)) = j_ := ⟨_, rfl⟩
           replace H : (if 0 ≤ (ji14) then (tribunalref06_between.j1 k1 a0 (bt a0 a1) x7_1 x8_1 ((bt a0 (ji14)) == 34)) else (none)) = some (r1, r2, r3, r4, r5, r6) := by ((rw [hji14] at H; exact H))
           (try rw [hji14] at c13b0)
           have hji14w : (IntKind.i64.wrap (x8_1 + 1)) = ji14 := (i64_w _).trans hji14
           by_cases c15 : 0 ≤ (ji14)
           ·rw [if_pos c15] at H
            have c15b0 : decide (0 ≤ (ji14)) = true := decide_eq_true c15
            clear c15
            have H' := Aside0.mk H
            clear H
            have p10 : 0 ≤ (x8_1 : Int) := of_decide_eq_true (by assumption)
            have q10 : x8_1 < (a0.size : Int) := of_decide_eq_true (by assumption)
            have hx10 := bt_at a0 x8_1
            replace p10 := eq_true p10
            replace q10 := eq_true q10
            have p16 : 0 ≤ ((ji14) : Int) := of_decide_eq_true (by assumption)
            have q16 : (ji14) < (a0.size : Int) := of_decide_eq_true (by assumption)
            have hx16 := bt_at a0 (ji14)
            replace p16 := eq_true p16
            replace q16 := eq_true q16
            go_wp2
            go_meet
            case rel => exact ⟨_, (((bt a0 (ji14)) == 34)), (by rfl), H', ⟨by have := HK1.out; omega⟩, ⟨by exact BK500.out⟩, ⟨by exact HB.out⟩⟩
           ·rw [if_neg c15] at H
            exact absurd H (by simp)
          ·rw [if_neg c13] at H
           have c13b0 : decide ((wrap64 (x8_1 + 1)) < (a0.size : Int)) = false := decide_eq_false c13
           clear c13
           have H' := Aside0.mk H
           clear H
           have p10 : 0 ≤ (x8_1 : Int) := of_decide_eq_true (by assumption)
           have q10 : x8_1 < (a0.size : Int) := of_decide_eq_true (by assumption)
           have hx10 := bt_at a0 x8_1
           replace p10 := eq_true p10
           replace q10 := eq_true q10
           go_wp2
           go_meet
           case rel => exact ⟨_, (false), (by rfl), H', ⟨by have := HK1.out; omega⟩, ⟨by exact BK500.out⟩, ⟨by exact HB.out⟩⟩
         ·rw [if_neg c12] at H
          have c12b0 : ((bt a0 a1) == 34) = false := beq_eq_false_iff_ne.mpr c12
          have c12b1 : ((bt a0 a1) != 34) = true := bne_iff_ne.mpr c12
          have H' := Aside0.mk H
          clear H
          have p10 : 0 ≤ (x8_1 : Int) := of_decide_eq_true (by assumption)
          have q10 : x8_1 < (a0.size : Int) := of_decide_eq_true (by assumption)
          have hx10 := bt_at a0 x8_1
          replace p10 := eq_true p10
          replace q10 := eq_true q10
          go_wp2
          go_meet
          case rel => exact ⟨_, (false), (by rfl), H', ⟨by have := HK1.out; omega⟩, ⟨by exact BK500.out⟩, ⟨by exact HB.out⟩⟩
        ·rw [if_neg c11] at H
         have c11b0 : ((bt a0 x8_1) == (bt a0 a1)) = false := beq_eq_false_iff_ne.mpr c11
         have c11b1 : ((bt a0 x8_1) != (bt a0 a1)) = true := bne_iff_ne.mpr c11
         have H' := Aside0.mk H
         clear H
         have p10 : 0 ≤ (x8_1 : Int) := of_decide_eq_true (by assumption)
         have q10 : x8_1 < (a0.size : Int) := of_decide_eq_true (by assumption)
         have hx10 := bt_at a0 x8_1
         replace p10 := eq_true p10
         replace q10 := eq_true q10
         go_wp2
         go_meet
         case rel => exact ⟨_, (false), (by rfl), H', ⟨by have := HK1.out; omega⟩, ⟨by exact BK500.out⟩, ⟨by exact HB.out⟩⟩
       ·rw [if_neg c9] at H
        exact absurd H (by simp)
      case rest =>
       clear HC8
       obtain ⟨kq, x42_7, rfl, HA, HJ7, BK500, HB⟩ := hcut
       cases kq with
       | zero => exact absurd HA.out (by simp [tribunalref06_between.j1])
       | succ kj7 =>
        have H := HA.out
        clear HA
        simp only [tribunalref06_between.j1] at H
        by_cases c17 : x42_7 = true
        ·subst c17
         have H1 : (if x7_1.size + 1 ≤ 9223372036854775807 then (tribunalref06_between.l0 kj7 a0 (bt a0 a1) (x7_1 ++ (⟨#[34]⟩ : ByteArray)) (wrap64 ((wrap64 (x8_1 + 1)) + 1))) else (none)) = some (r1, r2, r3, r4, r5, r6) := by rw [if_pos rfl] at H; exact H
         clear H
         have H := H1
         clear H1
         by_cases c18 : x7_1.size + 1 ≤ 9223372036854775807
         ·rw [if_pos c18] at H
          have c18b0 := eq_true c18
          have c18b1 : decide (x7_1.size + 1 ≤ 9223372036854775807) = true := decide_eq_true c18
          try have c18b2 : (9223372036854775807 < x7_1.size + 1) = False := eq_false (Nat.not_lt.2 c18)
          have H' := Aside0.mk H
          clear H
          go_wp2
          go_roundg kj7
          case measure => have := HK1.out; have := HJ7.out; omega
          case rel => exact ⟨(x7_1 ++ (⟨#[34]⟩ : ByteArray)), (wrap64 ((wrap64 (x8_1 + 1)) + 1)), (x501000_1), (x501001_1), (x501002_1), (x501003_1), (x501004_1), (by rfl), (by rfl), H', ⟨by have := HK1.out; have := HJ7.out; omega⟩, ⟨by exact BK500.out⟩, ⟨by exact HB.out⟩⟩
         ·rw [if_neg c18] at H
          exact absurd H (by simp)
        ·replace c17 := Bool.eq_false_iff.mpr c17
         subst c17
         have H1 : (if 0 ≤ x8_1 then (if x8_1 < (a0.size : Int) then (if (bt a0 x8_1) = (bt a0 a1) then (if (bt a0 a1) = 34 then (some (7, x7_1, false, 0, 0, wrap64 (x8_1 + 1))) else (some (8, x7_1, true, 0, 0, wrap64 (x8_1 + 1)))) else ((tribunalref06_Inner.f (bt a0 x8_1)).bind fun t501 => (if t501 = true then (if (bt a0 a1) = 124 then (if (bt a0 x8_1) = 92 then (some (0, (⟨#[]⟩ : ByteArray), false, 0, 0, 0)) else (if x8_1 ≤ (wrap64 (x8_1 + 1)) then (if (wrap64 (x8_1 + 1)) ≤ (a0.size : Int) then (if x7_1.size + (a0.extract (x8_1 : Int).toNat ((wrap64 (x8_1 + 1)) : Int).toNat).size ≤ 9223372036854775807 then (tribunalref06_between.l0 kj7 a0 (bt a0 a1) (x7_1 ++ (a0.extract (x8_1 : Int).toNat ((wrap64 (x8_1 + 1)) : Int).toNat)) (wrap64 (x8_1 + 1))) else (none)) else (none)) else (none))) else (if x8_1 ≤ (wrap64 (x8_1 + 1)) then (if (wrap64 (x8_1 + 1)) ≤ (a0.size : Int) then (if x7_1.size + (a0.extract (x8_1 : Int).toNat ((wrap64 (x8_1 + 1)) : Int).toNat).size ≤ 9223372036854775807 then (tribunalref06_between.l0 kj7 a0 (bt a0 a1) (x7_1 ++ (a0.extract (x8_1 : Int).toNat ((wrap64 (x8_1 + 1)) : Int).toNat)) (wrap64 (x8_1 + 1))) else (none)) else (none)) else (none))) else (some (0, (⟨#[]⟩ : ByteArray), false, 0, 0, 0))))) else (none)) else (none)) = some (r1, r2, r3, r4, r5, r6) := by rw [if_neg (show ¬ (false = true) by decide)] at H; exact H
         clear H
         have H := H1
         clear H1
         by_cases c19 : 0 ≤ x8_1
         ·rw [if_pos c19] at H
          have c19b0 : decide (0 ≤ x8_1) = true := decide_eq_true c19
          clear c19
          by_cases c20 : x8_1 < (a0.size : Int)
          ·rw [if_pos c20] at H
           have c20b0 : decide (x8_1 < (a0.size : Int)) = true := decide_eq_true c20
           clear c20
           by_cases c22 : (bt a0 x8_1) = (bt a0 a1)
           ·rw [if_pos c22] at H
            have c22b0 : ((bt a0 x8_1) == (bt a0 a1)) = true := beq_iff_eq.mpr c22
            have c22b1 : ((bt a0 x8_1) != (bt a0 a1)) = false := bne_eq_false_iff_eq.mpr c22
            clear c22
            by_cases c23 : (bt a0 a1) = 34
            ·rw [if_pos c23] at H
             have c23b0 : ((bt a0 a1) == 34) = true := beq_iff_eq.mpr c23
             have c23b1 : ((bt a0 a1) != 34) = false := bne_eq_false_iff_eq.mpr c23
             clear c23
             simp only [Option.some.injEq, Prod.mk.injEq] at H
             obtain ⟨rfl, rfl, rfl, rfl, rfl, rfl⟩ := H
             have p21 : 0 ≤ (x8_1 : Int) := of_decide_eq_true (by assumption)
             have q21 : x8_1 < (a0.size : Int) := of_decide_eq_true (by assumption)
             have hx21 := bt_at a0 x8_1
             replace p21 := eq_true p21
             replace q21 := eq_true q21
             have hcz24_0 : wc.cell? ⟨gb500, 0, none⟩ = some (.int .i64 x501000_1) := (blk_cell BK500.out 0).trans rfl
             have hcz24_1 : wc.cell? ⟨gb500, 1, none⟩ = some (.string x501001_1) := (blk_cell BK500.out 1).trans rfl
             have hcz24_2 : wc.cell? ⟨gb500, 2, none⟩ = some (.bool x501002_1) := (blk_cell BK500.out 2).trans rfl
             have hcz24_3 : wc.cell? ⟨gb500, 3, none⟩ = some (.int .i64 x501003_1) := (blk_cell BK500.out 3).trans rfl
             have hcz24_4 : wc.cell? ⟨gb500, 4, none⟩ = some (.int .i64 x501004_1) := (blk_cell BK500.out 4).trans rfl
             have hfz24_0 := blk_frozen BK500.out 0
             have hfz24_1 := blk_frozen BK500.out 1
             have hfz24_2 := blk_frozen BK500.out 2
             have hfz24_3 := blk_frozen BK500.out 3
             have hfz24_4 := blk_frozen BK500.out 4
             go_wp2
             refine bodyPost_ret (results_ct rfl _ _ gb500 37 #[.int .i64 7, .string x7_1, .bool false, .int .i64 0, .int .i64 0] (0, 0) _ rfl (by refine blk_put (cs := #[.int .i64 7, .string x7_1, .bool false, .int .i64 0, .int .i64 x501004_1]) ?_ 4 _ rfl; refine blk_put (cs := #[.int .i64 7, .string x7_1, .bool false, .int .i64 x501003_1, .int .i64 x501004_1]) ?_ 3 _ rfl; refine blk_put (cs := #[.int .i64 7, .string x7_1, .bool x501002_1, .int .i64 x501003_1, .int .i64 x501004_1]) ?_ 2 _ rfl; refine blk_put (cs := #[.int .i64 7, .string x501001_1, .bool x501002_1, .int .i64 x501003_1, .int .i64 x501004_1]) ?_ 1 _ rfl; refine blk_put (cs := #[.int .i64 x501000_1, .string x501001_1, .bool x501002_1, .int .i64 x501003_1, .int .i64 x501004_1]) ?_ 0 _ rfl; exact BK500.out) Tryz.underlying37 rfl (by kernel_rfl)) rfl ?_
             exact ⟨by rfl, by repeat ((with_reducible first | exact HB.out | refine below_set ?_ GE500.out))⟩
            ·rw [if_neg c23] at H
             have c23b0 : ((bt a0 a1) == 34) = false := beq_eq_false_iff_ne.mpr c23
             have c23b1 : ((bt a0 a1) != 34) = true := bne_iff_ne.mpr c23
             simp only [Option.some.injEq, Prod.mk.injEq] at H
             obtain ⟨rfl, rfl, rfl, rfl, rfl, rfl⟩ := H
             have p21 : 0 ≤ (x8_1 : Int) := of_decide_eq_true (by assumption)
             have q21 : x8_1 < (a0.size : Int) := of_decide_eq_true (by assumption)
             have hx21 := bt_at a0 x8_1
             replace p21 := eq_true p21
             replace q21 := eq_true q21
             have hcz25_0 : wc.cell? ⟨gb500, 0, none⟩ = some (.int .i64 x501000_1) := (blk_cell BK500.out 0).trans rfl
             have hcz25_1 : wc.cell? ⟨gb500, 1, none⟩ = some (.string x501001_1) := (blk_cell BK500.out 1).trans rfl
             have hcz25_2 : wc.cell? ⟨gb500, 2, none⟩ = some (.bool x501002_1) := (blk_cell BK500.out 2).trans rfl
             have hcz25_3 : wc.cell? ⟨gb500, 3, none⟩ = some (.int .i64 x501003_1) := (blk_cell BK500.out 3).trans rfl
             have hcz25_4 : wc.cell? ⟨gb500, 4, none⟩ = some (.int .i64 x501004_1) := (blk_cell BK500.out 4).trans rfl
             have hfz25_0 := blk_frozen BK500.out 0
             have hfz25_1 := blk_frozen BK500.out 1
             have hfz25_2 := blk_frozen BK500.out 2
             have hfz25_3 := blk_frozen BK500.out 3
             have hfz25_4 := blk_frozen BK500.out 4
             go_wp2
             refine bodyPost_ret (results_ct rfl _ _ gb500 37 #[.int .i64 8, .string x7_1, .bool true, .int .i64 0, .int .i64 0] (0, 0) _ rfl (by refine blk_put (cs := #[.int .i64 8, .string x7_1, .bool true, .int .i64 0, .int .i64 x501004_1]) ?_ 4 _ rfl; refine blk_put (cs := #[.int .i64 8, .string x7_1, .bool true, .int .i64 x501003_1, .int .i64 x501004_1]) ?_ 3 _ rfl; refine blk_put (cs := #[.int .i64 8, .string x7_1, .bool x501002_1, .int .i64 x501003_1, .int .i64 x501004_1]) ?_ 2 _ rfl; refine blk_put (cs := #[.int .i64 8, .string x501001_1, .bool x501002_1, .int .i64 x501003_1, .int .i64 x501004_1]) ?_ 1 _ rfl; refine blk_put (cs := #[.int .i64 x501000_1, .string x501001_1, .bool x501002_1, .int .i64 x501003_1, .int .i64 x501004_1]) ?_ 0 _ rfl; exact BK500.out) Tryz.underlying37 rfl (by kernel_rfl)) rfl ?_
             exact ⟨by rfl, by repeat ((with_reducible first | exact HB.out | refine below_set ?_ GE500.out))⟩
           ·rw [if_neg c22] at H
            have c22b0 : ((bt a0 x8_1) == (bt a0 a1)) = false := beq_eq_false_iff_ne.mpr c22
            have c22b1 : ((bt a0 x8_1) != (bt a0 a1)) = true := bne_iff_ne.mpr c22
            replace H := Option.bind_eq_some_iff.mp H
            obtain ⟨t501, A270, H⟩ := H
            replace H : (if t501 = true then (if (bt a0 a1) = 124 then (if (bt a0 x8_1) = 92 then (some (0, (⟨#[]⟩ : ByteArray), false, 0, 0, 0)) else (if x8_1 ≤ (wrap64 (x8_1 + 1)) then (if (wrap64 (x8_1 + 1)) ≤ (a0.size : Int) then (if x7_1.size + (a0.extract (x8_1 : Int).toNat ((wrap64 (x8_1 + 1)) : Int).toNat).size ≤ 9223372036854775807 then (tribunalref06_between.l0 kj7 a0 (bt a0 a1) (x7_1 ++ (a0.extract (x8_1 : Int).toNat ((wrap64 (x8_1 + 1)) : Int).toNat)) (wrap64 (x8_1 + 1))) else (none)) else (none)) else (none))) else (if x8_1 ≤ (wrap64 (x8_1 + 1)) then (if (wrap64 (x8_1 + 1)) ≤ (a0.size : Int) then (if x7_1.size + (a0.extract (x8_1 : Int).toNat ((wrap64 (x8_1 + 1)) : Int).toNat).size ≤ 9223372036854775807 then (tribunalref06_between.l0 kj7 a0 (bt a0 a1) (x7_1 ++ (a0.extract (x8_1 : Int).toNat ((wrap64 (x8_1 + 1)) : Int).toNat)) (wrap64 (x8_1 + 1))) else (none)) else (none)) else (none))) else (some (0, (⟨#[]⟩ : ByteArray), false, 0, 0, 0))) = some (r1, r2, r3, r4, r5, r6) := H
            have A27 := Aside0.mk A270
            clear A270
            by_cases c28 : t501 = true
            ·subst c28
             have H1 : (if (bt a0 a1) = 124 then (if (bt a0 x8_1) = 92 then (some (0, (⟨#[]⟩ : ByteArray), false, 0, 0, 0)) else (if x8_1 ≤ (wrap64 (x8_1 + 1)) then (if (wrap64 (x8_1 + 1)) ≤ (a0.size : Int) then (if x7_1.size + (a0.extract (x8_1 : Int).toNat ((wrap64 (x8_1 + 1)) : Int).toNat).size ≤ 9223372036854775807 then (tribunalref06_between.l0 kj7 a0 (bt a0 a1) (x7_1 ++ (a0.extract (x8_1 : Int).toNat ((wrap64 (x8_1 + 1)) : Int).toNat)) (wrap64 (x8_1 + 1))) else (none)) else (none)) else (none))) else (if x8_1 ≤ (wrap64 (x8_1 + 1)) then (if (wrap64 (x8_1 + 1)) ≤ (a0.size : Int) then (if x7_1.size + (a0.extract (x8_1 : Int).toNat ((wrap64 (x8_1 + 1)) : Int).toNat).size ≤ 9223372036854775807 then (tribunalref06_between.l0 kj7 a0 (bt a0 a1) (x7_1 ++ (a0.extract (x8_1 : Int).toNat ((wrap64 (x8_1 + 1)) : Int).toNat)) (wrap64 (x8_1 + 1))) else (none)) else (none)) else (none))) = some (r1, r2, r3, r4, r5, r6) := by rw [if_pos rfl] at H; exact H
             clear H
             have H := H1
             clear H1
             by_cases c29 : (bt a0 a1) = 124
             ·rw [if_pos c29] at H
              have c29b0 : ((bt a0 a1) == 124) = true := beq_iff_eq.mpr c29
              have c29b1 : ((bt a0 a1) != 124) = false := bne_eq_false_iff_eq.mpr c29
              clear c29
              by_cases c31 : (bt a0 x8_1) = 92
              ·rw [if_pos c31] at H
               have c31b0 : ((bt a0 x8_1) == 92) = true := beq_iff_eq.mpr c31
               have c31b1 : ((bt a0 x8_1) != 92) = false := bne_eq_false_iff_eq.mpr c31
               clear c31
               simp only [Option.some.injEq, Prod.mk.injEq] at H
               obtain ⟨rfl, rfl, rfl, rfl, rfl, rfl⟩ := H
               have p21 : 0 ≤ (x8_1 : Int) := of_decide_eq_true (by assumption)
               have q21 : x8_1 < (a0.size : Int) := of_decide_eq_true (by assumption)
               have hx21 := bt_at a0 x8_1
               replace p21 := eq_true p21
               replace q21 := eq_true q21
               have p26 : 0 ≤ (x8_1 : Int) := of_decide_eq_true (by assumption)
               have q26 : x8_1 < (a0.size : Int) := of_decide_eq_true (by assumption)
               have hx26 := bt_at a0 x8_1
               replace p26 := eq_true p26
               replace q26 := eq_true q26
               go_wp2_with ((((with_reducible refine gate_callee (f := 38) rfl ?_); refine goesL_ (some 65) rfl rfl Tryz.func38 (by kernel_rfl) rfl #[.int .u8 (bt a0 x8_1)] rfl (by (try simp only [List.map_toArray, List.map_cons, List.map_nil]); rfl) ?_; (with_reducible refine (tribunalref06_Inner.calls (bt a0 x8_1) true _ A27.out).mono ?_); rintro e w' ⟨rfl, ⟨nd, rfl⟩⟩; refine ⟨_, rfl, ?_⟩; (try (rw [drewN_self wc]; generalize hq_ : World.drewN wc _ = wc; have n0_ : Aside0 (wc.heap[gb500]? = some (.cells #[.int .i64 x501000_1, .string x501001_1, .bool x501002_1, .int .i64 x501003_1, .int .i64 x501004_1] 37 (0, 0))) := ⟨by rw [← hq_]; exact (by (with_reducible repeat (refine blk_drewN ?_ _)); exact BK500.out)⟩; have n1_ : Aside0 (Below w.heap.size w wc) := ⟨by rw [← hq_]; exact (by repeat ((with_reducible first | exact HB.out | apply pw_below_drewN)))⟩; clear BK500 HB hq_; have BK500 := n0_; have HB := n1_; clear n0_ n1_)); have p30 : 0 ≤ (x8_1 : Int) := of_decide_eq_true (by assumption); have q30 : x8_1 < (a0.size : Int) := of_decide_eq_true (by assumption); have hx30 := bt_at a0 x8_1; replace p30 := eq_true p30; replace q30 := eq_true q30; have hcz32_0 : wc.cell? ⟨gb500, 0, none⟩ = some (.int .i64 x501000_1) := (blk_cell BK500.out 0).trans rfl; have hcz32_1 : wc.cell? ⟨gb500, 1, none⟩ = some (.string x501001_1) := (blk_cell BK500.out 1).trans rfl; have hcz32_2 : wc.cell? ⟨gb500, 2, none⟩ = some (.bool x501002_1) := (blk_cell BK500.out 2).trans rfl; have hcz32_3 : wc.cell? ⟨gb500, 3, none⟩ = some (.int .i64 x501003_1) := (blk_cell BK500.out 3).trans rfl; have hcz32_4 : wc.cell? ⟨gb500, 4, none⟩ = some (.int .i64 x501004_1) := (blk_cell BK500.out 4).trans rfl; have hfz32_0 := blk_frozen BK500.out 0; have hfz32_1 := blk_frozen BK500.out 1; have hfz32_2 := blk_frozen BK500.out 2; have hfz32_3 := blk_frozen BK500.out 3; have hfz32_4 := blk_frozen BK500.out 4)))
               refine bodyPost_ret (results_ct rfl _ _ gb500 37 #[.int .i64 0, .string (⟨#[]⟩ : ByteArray), .bool false, .int .i64 0, .int .i64 0] (0, 0) _ rfl (by refine blk_put (cs := #[.int .i64 0, .string (⟨#[]⟩ : ByteArray), .bool false, .int .i64 0, .int .i64 x501004_1]) ?_ 4 _ rfl; refine blk_put (cs := #[.int .i64 0, .string (⟨#[]⟩ : ByteArray), .bool false, .int .i64 x501003_1, .int .i64 x501004_1]) ?_ 3 _ rfl; refine blk_put (cs := #[.int .i64 0, .string (⟨#[]⟩ : ByteArray), .bool x501002_1, .int .i64 x501003_1, .int .i64 x501004_1]) ?_ 2 _ rfl; refine blk_put (cs := #[.int .i64 0, .string x501001_1, .bool x501002_1, .int .i64 x501003_1, .int .i64 x501004_1]) ?_ 1 _ rfl; refine blk_put (cs := #[.int .i64 x501000_1, .string x501001_1, .bool x501002_1, .int .i64 x501003_1, .int .i64 x501004_1]) ?_ 0 _ rfl; exact BK500.out) Tryz.underlying37 rfl (by kernel_rfl)) rfl ?_
               exact ⟨by rfl, by repeat ((with_reducible first | exact HB.out | refine below_set ?_ GE500.out))⟩
              ·rw [if_neg c31] at H
               have c31b0 : ((bt a0 x8_1) == 92) = false := beq_eq_false_iff_ne.mpr c31
               have c31b1 : ((bt a0 x8_1) != 92) = true := bne_iff_ne.mpr c31
               have c33b0 := eq_true (of_decide_eq_true (by assumption) : 0 ≤ x8_1)
               by_cases c34 : x8_1 ≤ (wrap64 (x8_1 + 1))
               ·rw [if_pos c34] at H
                have c34b0 := eq_true c34
                have c34b1 : decide (x8_1 ≤ (wrap64 (x8_1 + 1))) = true := decide_eq_true c34
                by_cases c35 : (wrap64 (x8_1 + 1)) ≤ (a0.size : Int)
                ·rw [if_pos c35] at H
                 have c35b0 := eq_true c35
                 have c35b1 : decide ((wrap64 (x8_1 + 1)) ≤ (a0.size : Int)) = true := decide_eq_true c35
                 by_cases c36 : x7_1.size + (a0.extract (x8_1 : Int).toNat ((wrap64 (x8_1 + 1)) : Int).toNat).size ≤ 9223372036854775807
                 ·rw [if_pos c36] at H
                  have c36b0 := eq_true c36
                  have c36b1 : decide (x7_1.size + (a0.extract (x8_1 : Int).toNat ((wrap64 (x8_1 + 1)) : Int).toNat).size ≤ 9223372036854775807) = true := decide_eq_true c36
                  try have c36b2 : (9223372036854775807 < x7_1.size + (a0.extract (x8_1 : Int).toNat ((wrap64 (x8_1 + 1)) : Int).toNat).size) = False := eq_false (Nat.not_lt.2 c36)
                  have H' := Aside0.mk H
                  clear H
                  have p21 : 0 ≤ (x8_1 : Int) := of_decide_eq_true (by assumption)
                  have q21 : x8_1 < (a0.size : Int) := of_decide_eq_true (by assumption)
                  have hx21 := bt_at a0 x8_1
                  replace p21 := eq_true p21
                  replace q21 := eq_true q21
                  have p26 : 0 ≤ (x8_1 : Int) := of_decide_eq_true (by assumption)
                  have q26 : x8_1 < (a0.size : Int) := of_decide_eq_true (by assumption)
                  have hx26 := bt_at a0 x8_1
                  replace p26 := eq_true p26
                  replace q26 := eq_true q26
                  go_wp2_with ((((with_reducible refine gate_callee (f := 38) rfl ?_); refine goesL_ (some 65) rfl rfl Tryz.func38 (by kernel_rfl) rfl #[.int .u8 (bt a0 x8_1)] rfl (by (try simp only [List.map_toArray, List.map_cons, List.map_nil]); rfl) ?_; (with_reducible refine (tribunalref06_Inner.calls (bt a0 x8_1) true _ A27.out).mono ?_); rintro e w' ⟨rfl, ⟨nd, rfl⟩⟩; refine ⟨_, rfl, ?_⟩; have p30 : 0 ≤ (x8_1 : Int) := of_decide_eq_true (by assumption); have q30 : x8_1 < (a0.size : Int) := of_decide_eq_true (by assumption); have hx30 := bt_at a0 x8_1; replace p30 := eq_true p30; replace q30 := eq_true q30)))
                  go_roundg kj7
                  case measure => have := HK1.out; have := HJ7.out; omega
                  case rel => exact ⟨(x7_1 ++ (a0.extract (x8_1 : Int).toNat ((wrap64 (x8_1 + 1)) : Int).toNat)), (wrap64 (x8_1 + 1)), (x501000_1), (x501001_1), (x501002_1), (x501003_1), (x501004_1), (by rfl), (by rfl), H', ⟨by have := HK1.out; have := HJ7.out; omega⟩, ⟨by (with_reducible repeat (refine blk_drewN ?_ _)); exact BK500.out⟩, ⟨by repeat ((with_reducible first | exact HB.out | apply pw_below_drewN))⟩⟩
                 ·rw [if_neg c36] at H
                  exact absurd H (by simp)
                ·rw [if_neg c35] at H
                 exact absurd H (by simp)
               ·rw [if_neg c34] at H
                exact absurd H (by simp)
             ·rw [if_neg c29] at H
              have c29b0 : ((bt a0 a1) == 124) = false := beq_eq_false_iff_ne.mpr c29
              have c29b1 : ((bt a0 a1) != 124) = true := bne_iff_ne.mpr c29
              have c37b0 := eq_true (of_decide_eq_true (by assumption) : 0 ≤ x8_1)
              by_cases c38 : x8_1 ≤ (wrap64 (x8_1 + 1))
              ·rw [if_pos c38] at H
               have c38b0 := eq_true c38
               have c38b1 : decide (x8_1 ≤ (wrap64 (x8_1 + 1))) = true := decide_eq_true c38
               by_cases c39 : (wrap64 (x8_1 + 1)) ≤ (a0.size : Int)
               ·rw [if_pos c39] at H
                have c39b0 := eq_true c39
                have c39b1 : decide ((wrap64 (x8_1 + 1)) ≤ (a0.size : Int)) = true := decide_eq_true c39
                by_cases c40 : x7_1.size + (a0.extract (x8_1 : Int).toNat ((wrap64 (x8_1 + 1)) : Int).toNat).size ≤ 9223372036854775807
                ·rw [if_pos c40] at H
                 have c40b0 := eq_true c40
                 have c40b1 : decide (x7_1.size + (a0.extract (x8_1 : Int).toNat ((wrap64 (x8_1 + 1)) : Int).toNat).size ≤ 9223372036854775807) = true := decide_eq_true c40
                 try have c40b2 : (9223372036854775807 < x7_1.size + (a0.extract (x8_1 : Int).toNat ((wrap64 (x8_1 + 1)) : Int).toNat).size) = False := eq_false (Nat.not_lt.2 c40)
                 have H' := Aside0.mk H
                 clear H
                 have p21 : 0 ≤ (x8_1 : Int) := of_decide_eq_true (by assumption)
                 have q21 : x8_1 < (a0.size : Int) := of_decide_eq_true (by assumption)
                 have hx21 := bt_at a0 x8_1
                 replace p21 := eq_true p21
                 replace q21 := eq_true q21
                 have p26 : 0 ≤ (x8_1 : Int) := of_decide_eq_true (by assumption)
                 have q26 : x8_1 < (a0.size : Int) := of_decide_eq_true (by assumption)
                 have hx26 := bt_at a0 x8_1
                 replace p26 := eq_true p26
                 replace q26 := eq_true q26
                 go_wp2_with ((((with_reducible refine gate_callee (f := 38) rfl ?_); refine goesL_ (some 65) rfl rfl Tryz.func38 (by kernel_rfl) rfl #[.int .u8 (bt a0 x8_1)] rfl (by (try simp only [List.map_toArray, List.map_cons, List.map_nil]); rfl) ?_; (with_reducible refine (tribunalref06_Inner.calls (bt a0 x8_1) true _ A27.out).mono ?_); rintro e w' ⟨rfl, ⟨nd, rfl⟩⟩; refine ⟨_, rfl, ?_⟩)))
                 go_roundg kj7
                 case measure => have := HK1.out; have := HJ7.out; omega
                 case rel => exact ⟨(x7_1 ++ (a0.extract (x8_1 : Int).toNat ((wrap64 (x8_1 + 1)) : Int).toNat)), (wrap64 (x8_1 + 1)), (x501000_1), (x501001_1), (x501002_1), (x501003_1), (x501004_1), (by rfl), (by rfl), H', ⟨by have := HK1.out; have := HJ7.out; omega⟩, ⟨by (with_reducible repeat (refine blk_drewN ?_ _)); exact BK500.out⟩, ⟨by repeat ((with_reducible first | exact HB.out | apply pw_below_drewN))⟩⟩
                ·rw [if_neg c40] at H
                 exact absurd H (by simp)
               ·rw [if_neg c39] at H
                exact absurd H (by simp)
              ·rw [if_neg c38] at H
               exact absurd H (by simp)
            ·replace c28 := Bool.eq_false_iff.mpr c28
             subst c28
             have H1 : (some (0, (⟨#[]⟩ : ByteArray), false, 0, 0, 0)) = some (r1, r2, r3, r4, r5, r6) := by rw [if_neg (show ¬ (false = true) by decide)] at H; exact H
             clear H
             have H := H1
             clear H1
             simp only [Option.some.injEq, Prod.mk.injEq] at H
             obtain ⟨rfl, rfl, rfl, rfl, rfl, rfl⟩ := H
             have p21 : 0 ≤ (x8_1 : Int) := of_decide_eq_true (by assumption)
             have q21 : x8_1 < (a0.size : Int) := of_decide_eq_true (by assumption)
             have hx21 := bt_at a0 x8_1
             replace p21 := eq_true p21
             replace q21 := eq_true q21
             have p26 : 0 ≤ (x8_1 : Int) := of_decide_eq_true (by assumption)
             have q26 : x8_1 < (a0.size : Int) := of_decide_eq_true (by assumption)
             have hx26 := bt_at a0 x8_1
             replace p26 := eq_true p26
             replace q26 := eq_true q26
             go_wp2_with ((((with_reducible refine gate_callee (f := 38) rfl ?_); refine goesL_ (some 65) rfl rfl Tryz.func38 (by kernel_rfl) rfl #[.int .u8 (bt a0 x8_1)] rfl (by (try simp only [List.map_toArray, List.map_cons, List.map_nil]); rfl) ?_; (with_reducible refine (tribunalref06_Inner.calls (bt a0 x8_1) false _ A27.out).mono ?_); rintro e w' ⟨rfl, ⟨nd, rfl⟩⟩; refine ⟨_, rfl, ?_⟩; (try (rw [drewN_self wc]; generalize hq_ : World.drewN wc _ = wc; have n0_ : Aside0 (wc.heap[gb500]? = some (.cells #[.int .i64 x501000_1, .string x501001_1, .bool x501002_1, .int .i64 x501003_1, .int .i64 x501004_1] 37 (0, 0))) := ⟨by rw [← hq_]; exact (by (with_reducible repeat (refine blk_drewN ?_ _)); exact BK500.out)⟩; have n1_ : Aside0 (Below w.heap.size w wc) := ⟨by rw [← hq_]; exact (by repeat ((with_reducible first | exact HB.out | apply pw_below_drewN)))⟩; clear BK500 HB hq_; have BK500 := n0_; have HB := n1_; clear n0_ n1_)); have hcz41_0 : wc.cell? ⟨gb500, 0, none⟩ = some (.int .i64 x501000_1) := (blk_cell BK500.out 0).trans rfl; have hcz41_1 : wc.cell? ⟨gb500, 1, none⟩ = some (.string x501001_1) := (blk_cell BK500.out 1).trans rfl; have hcz41_2 : wc.cell? ⟨gb500, 2, none⟩ = some (.bool x501002_1) := (blk_cell BK500.out 2).trans rfl; have hcz41_3 : wc.cell? ⟨gb500, 3, none⟩ = some (.int .i64 x501003_1) := (blk_cell BK500.out 3).trans rfl; have hcz41_4 : wc.cell? ⟨gb500, 4, none⟩ = some (.int .i64 x501004_1) := (blk_cell BK500.out 4).trans rfl; have hfz41_0 := blk_frozen BK500.out 0; have hfz41_1 := blk_frozen BK500.out 1; have hfz41_2 := blk_frozen BK500.out 2; have hfz41_3 := blk_frozen BK500.out 3; have hfz41_4 := blk_frozen BK500.out 4)))
             refine bodyPost_ret (results_ct rfl _ _ gb500 37 #[.int .i64 0, .string (⟨#[]⟩ : ByteArray), .bool false, .int .i64 0, .int .i64 0] (0, 0) _ rfl (by refine blk_put (cs := #[.int .i64 0, .string (⟨#[]⟩ : ByteArray), .bool false, .int .i64 0, .int .i64 x501004_1]) ?_ 4 _ rfl; refine blk_put (cs := #[.int .i64 0, .string (⟨#[]⟩ : ByteArray), .bool false, .int .i64 x501003_1, .int .i64 x501004_1]) ?_ 3 _ rfl; refine blk_put (cs := #[.int .i64 0, .string (⟨#[]⟩ : ByteArray), .bool x501002_1, .int .i64 x501003_1, .int .i64 x501004_1]) ?_ 2 _ rfl; refine blk_put (cs := #[.int .i64 0, .string x501001_1, .bool x501002_1, .int .i64 x501003_1, .int .i64 x501004_1]) ?_ 1 _ rfl; refine blk_put (cs := #[.int .i64 x501000_1, .string x501001_1, .bool x501002_1, .int .i64 x501003_1, .int .i64 x501004_1]) ?_ 0 _ rfl; exact BK500.out) Tryz.underlying37 rfl (by kernel_rfl)) rfl ?_
             exact ⟨by rfl, by repeat ((with_reducible first | exact HB.out | refine below_set ?_ GE500.out))⟩
          ·rw [if_neg c20] at H
           exact absurd H (by simp)
         ·rw [if_neg c19] at H
          exact absurd H (by simp)
     ·rw [if_neg c7] at H
      have c7b0 : decide (x8_1 < (a0.size : Int)) = false := decide_eq_false c7
      clear c7
      simp only [Option.some.injEq, Prod.mk.injEq] at H
      obtain ⟨rfl, rfl, rfl, rfl, rfl, rfl⟩ := H
      have hcz42_0 : wr.cell? ⟨gb500, 0, none⟩ = some (.int .i64 x501000_1) := (blk_cell BK500.out 0).trans rfl
      have hcz42_1 : wr.cell? ⟨gb500, 1, none⟩ = some (.string x501001_1) := (blk_cell BK500.out 1).trans rfl
      have hcz42_2 : wr.cell? ⟨gb500, 2, none⟩ = some (.bool x501002_1) := (blk_cell BK500.out 2).trans rfl
      have hcz42_3 : wr.cell? ⟨gb500, 3, none⟩ = some (.int .i64 x501003_1) := (blk_cell BK500.out 3).trans rfl
      have hcz42_4 : wr.cell? ⟨gb500, 4, none⟩ = some (.int .i64 x501004_1) := (blk_cell BK500.out 4).trans rfl
      have hfz42_0 := blk_frozen BK500.out 0
      have hfz42_1 := blk_frozen BK500.out 1
      have hfz42_2 := blk_frozen BK500.out 2
      have hfz42_3 := blk_frozen BK500.out 3
      have hfz42_4 := blk_frozen BK500.out 4
      go_wp2
      refine bodyPost_ret (results_ct rfl _ _ gb500 37 #[.int .i64 0, .string (⟨#[]⟩ : ByteArray), .bool false, .int .i64 0, .int .i64 0] (0, 0) _ rfl (by refine blk_put (cs := #[.int .i64 0, .string (⟨#[]⟩ : ByteArray), .bool false, .int .i64 0, .int .i64 x501004_1]) ?_ 4 _ rfl; refine blk_put (cs := #[.int .i64 0, .string (⟨#[]⟩ : ByteArray), .bool false, .int .i64 x501003_1, .int .i64 x501004_1]) ?_ 3 _ rfl; refine blk_put (cs := #[.int .i64 0, .string (⟨#[]⟩ : ByteArray), .bool x501002_1, .int .i64 x501003_1, .int .i64 x501004_1]) ?_ 2 _ rfl; refine blk_put (cs := #[.int .i64 0, .string x501001_1, .bool x501002_1, .int .i64 x501003_1, .int .i64 x501004_1]) ?_ 1 _ rfl; refine blk_put (cs := #[.int .i64 x501000_1, .string x501001_1, .bool x501002_1, .int .i64 x501003_1, .int .i64 x501004_1]) ?_ 0 _ rfl; exact BK500.out) Tryz.underlying37 rfl (by kernel_rfl)) rfl ?_
      exact ⟨by rfl, by repeat ((with_reducible first | exact HB.out | refine below_set ?_ GE500.out))⟩
  ·rw [if_neg c4] at H
   exact absurd H (by simp)
 ·rw [if_neg c3] at H
  exact absurd H (by simp)

/-! ### tribunalref04_SimpleByte: function 58 -/
mutual
def tribunalref04_SimpleByte.j0 : Nat → Int → Bool → Option (Bool)
 | 0, _, _ => none
 | k + 1, x0, x25 => if x25 = true then (some true) else (tribunalref04_SimpleByte.l0 k x0 0)
def tribunalref04_SimpleByte.l0 : Nat → Int → Int → Option (Bool)
 | 0, _, _ => none
 | k + 1, x0, x3 => if x3 < 17 then (if 0 ≤ x3 then (if (bt (⟨#[126, 33, 64, 36, 37, 94, 38, 42, 95, 45, 43, 61, 60, 62, 46, 63, 47]⟩ : ByteArray) x3) = x0 then (some true) else (tribunalref04_SimpleByte.l0 k x0 (wrap64 (x3 + 1)))) else (none)) else (some false)
end
def tribunalref04_SimpleByte.f (k : Nat) (a0 : Int) : Option (Bool) := if a0 ≥ 97 then (if a0 ≤ 122 then (tribunalref04_SimpleByte.j0 k a0 true) else (if a0 ≥ 65 then (if a0 ≤ 90 then (tribunalref04_SimpleByte.j0 k a0 true) else (if a0 ≥ 48 then (tribunalref04_SimpleByte.j0 k a0 (decide (a0 ≤ 57))) else (tribunalref04_SimpleByte.j0 k a0 false))) else (if a0 ≥ 48 then (tribunalref04_SimpleByte.j0 k a0 (decide (a0 ≤ 57))) else (tribunalref04_SimpleByte.j0 k a0 false)))) else (if a0 ≥ 65 then (if a0 ≤ 90 then (tribunalref04_SimpleByte.j0 k a0 true) else (if a0 ≥ 48 then (tribunalref04_SimpleByte.j0 k a0 (decide (a0 ≤ 57))) else (tribunalref04_SimpleByte.j0 k a0 false))) else (if a0 ≥ 48 then (tribunalref04_SimpleByte.j0 k a0 (decide (a0 ≤ 57))) else (tribunalref04_SimpleByte.j0 k a0 false)))
theorem tribunalref04_SimpleByte.mono_l : ∀ k, (∀ y0 y1, LeO (tribunalref04_SimpleByte.j0 k y0 y1) (tribunalref04_SimpleByte.j0 (k + 1) y0 y1)) ∧ (∀ y0 y1, LeO (tribunalref04_SimpleByte.l0 k y0 y1) (tribunalref04_SimpleByte.l0 (k + 1) y0 y1))
 | 0 => ⟨fun _ _ r h => by simp [tribunalref04_SimpleByte.j0] at h, fun _ _ r h => by simp [tribunalref04_SimpleByte.l0] at h⟩
 | k + 1 => by
  obtain ⟨ih0, ih1⟩ := tribunalref04_SimpleByte.mono_l k
  refine ⟨?_, ?_⟩
  ·intro y0 y1
   unfold tribunalref04_SimpleByte.j0
   repeat' first
   | (with_reducible exact ih1 _ _)
   | (with_reducible exact LeO.refl _)
   | (with_reducible refine LeO.ite ?_ ?_)
  ·intro y0 y1
   unfold tribunalref04_SimpleByte.l0
   repeat' first
   | (with_reducible exact ih1 _ _)
   | (with_reducible exact LeO.refl _)
   | (with_reducible refine LeO.ite ?_ ?_)
theorem tribunalref04_SimpleByte.mono : ∀ a0 k, LeO (tribunalref04_SimpleByte.f k a0) (tribunalref04_SimpleByte.f (k + 1) a0) := by
 intro a0 k
 obtain ⟨ih0, ih1⟩ := tribunalref04_SimpleByte.mono_l k
 unfold tribunalref04_SimpleByte.f
 repeat' first
  | (with_reducible exact ih0 _ _)
  | (with_reducible refine LeO.ite ?_ ?_)
set_option maxHeartbeats 8000000 in
set_option maxRecDepth 100000 in
theorem tribunalref04_SimpleByte.calls (k : Nat) (a0 : Int) (r : Bool) (w : World) (h : tribunalref04_SimpleByte.f k a0 = some r) :
 Calls Tryz.prog 58 #[.int .u8 a0] w fun e w' => e = .returned (.bool r) ∧ Drawn0 w w' := by
 have H : (if a0 ≥ 97 then (if a0 ≤ 122 then (tribunalref04_SimpleByte.j0 k a0 true) else (if a0 ≥ 65 then (if a0 ≤ 90 then (tribunalref04_SimpleByte.j0 k a0 true) else (if a0 ≥ 48 then (tribunalref04_SimpleByte.j0 k a0 (decide (a0 ≤ 57))) else (tribunalref04_SimpleByte.j0 k a0 false))) else (if a0 ≥ 48 then (tribunalref04_SimpleByte.j0 k a0 (decide (a0 ≤ 57))) else (tribunalref04_SimpleByte.j0 k a0 false)))) else (if a0 ≥ 65 then (if a0 ≤ 90 then (tribunalref04_SimpleByte.j0 k a0 true) else (if a0 ≥ 48 then (tribunalref04_SimpleByte.j0 k a0 (decide (a0 ≤ 57))) else (tribunalref04_SimpleByte.j0 k a0 false))) else (if a0 ≥ 48 then (tribunalref04_SimpleByte.j0 k a0 (decide (a0 ≤ 57))) else (tribunalref04_SimpleByte.j0 k a0 false)))) = some r := h
 clear h
 have HC2 := Aside0.mk H
 clear H
 go_enter Tryz.func58, Tryz.ntmps58
 go_upto_region 1 with (fail)
 go_cut [25] (fun v25 wc => ∃ (kq : Nat) (x25_1 : Bool), v25 = .bool x25_1 ∧ Aside0 (tribunalref04_SimpleByte.j0 kq a0 x25_1 = some r) ∧ Aside0 (kq ≤ k) ∧ Drawn0 w wc)
 case first =>
  have H := HC2.out
  clear HC2
  by_cases c3 : a0 ≥ 97
  ·rw [if_pos c3] at H
   have c3b0 : decide (97 ≤ a0) = true := decide_eq_true c3
   clear c3
   (skip)
   by_cases c4 : a0 ≤ 122
   ·rw [if_pos c4] at H
    have c4b0 : decide (a0 ≤ 122) = true := decide_eq_true c4
    clear c4
    have H' := Aside0.mk H
    clear H
    go_wp2
    go_meet
    case rel => exact ⟨_, (true), (by rfl), H', ⟨by omega⟩, by repeat (exact Drawn0.refl _)⟩
   ·rw [if_neg c4] at H
    have c4b0 : decide (a0 ≤ 122) = false := decide_eq_false c4
    clear c4
    by_cases c5 : a0 ≥ 65
    ·rw [if_pos c5] at H
     have c5b0 : decide (65 ≤ a0) = true := decide_eq_true c5
     clear c5
     by_cases c6 : a0 ≤ 90
     ·rw [if_pos c6] at H
      have c6b0 : decide (a0 ≤ 90) = true := decide_eq_true c6
      clear c6
      have H' := Aside0.mk H
      clear H
      go_wp2
      go_meet
      case rel => exact ⟨_, (true), (by rfl), H', ⟨by omega⟩, by repeat (exact Drawn0.refl _)⟩
     ·rw [if_neg c6] at H
      have c6b0 : decide (a0 ≤ 90) = false := decide_eq_false c6
      clear c6
      by_cases c7 : a0 ≥ 48
      ·rw [if_pos c7] at H
       have c7b0 : decide (48 ≤ a0) = true := decide_eq_true c7
       clear c7
       have H' := Aside0.mk H
       clear H
       go_wp2
       go_meet
       case rel => exact ⟨_, (decide (a0 ≤ 57)), (by rfl), H', ⟨by omega⟩, by repeat (exact Drawn0.refl _)⟩
      ·rw [if_neg c7] at H
       have c7b0 : decide (48 ≤ a0) = false := decide_eq_false c7
       clear c7
       have H' := Aside0.mk H
       clear H
       go_wp2
       go_meet
       case rel => exact ⟨_, (false), (by rfl), H', ⟨by omega⟩, by repeat (exact Drawn0.refl _)⟩
    ·rw [if_neg c5] at H
     have c5b0 : decide (65 ≤ a0) = false := decide_eq_false c5
     clear c5
     by_cases c8 : a0 ≥ 48
     ·rw [if_pos c8] at H
      have c8b0 : decide (48 ≤ a0) = true := decide_eq_true c8
      clear c8
      have H' := Aside0.mk H
      clear H
      go_wp2
      go_meet
      case rel => exact ⟨_, (decide (a0 ≤ 57)), (by rfl), H', ⟨by omega⟩, by repeat (exact Drawn0.refl _)⟩
     ·rw [if_neg c8] at H
      have c8b0 : decide (48 ≤ a0) = false := decide_eq_false c8
      clear c8
      have H' := Aside0.mk H
      clear H
      go_wp2
      go_meet
      case rel => exact ⟨_, (false), (by rfl), H', ⟨by omega⟩, by repeat (exact Drawn0.refl _)⟩
  ·rw [if_neg c3] at H
   have c3b0 : decide (97 ≤ a0) = false := decide_eq_false c3
   clear c3
   (skip)
   by_cases c9 : a0 ≥ 65
   ·rw [if_pos c9] at H
    have c9b0 : decide (65 ≤ a0) = true := decide_eq_true c9
    clear c9
    by_cases c10 : a0 ≤ 90
    ·rw [if_pos c10] at H
     have c10b0 : decide (a0 ≤ 90) = true := decide_eq_true c10
     clear c10
     have H' := Aside0.mk H
     clear H
     go_wp2
     go_meet
     case rel => exact ⟨_, (true), (by rfl), H', ⟨by omega⟩, by repeat (exact Drawn0.refl _)⟩
    ·rw [if_neg c10] at H
     have c10b0 : decide (a0 ≤ 90) = false := decide_eq_false c10
     clear c10
     by_cases c11 : a0 ≥ 48
     ·rw [if_pos c11] at H
      have c11b0 : decide (48 ≤ a0) = true := decide_eq_true c11
      clear c11
      have H' := Aside0.mk H
      clear H
      go_wp2
      go_meet
      case rel => exact ⟨_, (decide (a0 ≤ 57)), (by rfl), H', ⟨by omega⟩, by repeat (exact Drawn0.refl _)⟩
     ·rw [if_neg c11] at H
      have c11b0 : decide (48 ≤ a0) = false := decide_eq_false c11
      clear c11
      have H' := Aside0.mk H
      clear H
      go_wp2
      go_meet
      case rel => exact ⟨_, (false), (by rfl), H', ⟨by omega⟩, by repeat (exact Drawn0.refl _)⟩
   ·rw [if_neg c9] at H
    have c9b0 : decide (65 ≤ a0) = false := decide_eq_false c9
    clear c9
    by_cases c12 : a0 ≥ 48
    ·rw [if_pos c12] at H
     have c12b0 : decide (48 ≤ a0) = true := decide_eq_true c12
     clear c12
     have H' := Aside0.mk H
     clear H
     go_wp2
     go_meet
     case rel => exact ⟨_, (decide (a0 ≤ 57)), (by rfl), H', ⟨by omega⟩, by repeat (exact Drawn0.refl _)⟩
    ·rw [if_neg c12] at H
     have c12b0 : decide (48 ≤ a0) = false := decide_eq_false c12
     clear c12
     have H' := Aside0.mk H
     clear H
     go_wp2
     go_meet
     case rel => exact ⟨_, (false), (by rfl), H', ⟨by omega⟩, by repeat (exact Drawn0.refl _)⟩
 case rest =>
  clear HC2
  obtain ⟨kq, x25_1, rfl, HA, HJ1, ⟨mc1, rfl⟩⟩ := hcut
  cases kq with
  | zero => exact absurd HA.out (by simp [tribunalref04_SimpleByte.j0])
  | succ kj1 =>
   have H := HA.out
   clear HA
   simp only [tribunalref04_SimpleByte.j0] at H
   by_cases c13 : x25_1 = true
   ·subst c13
    have H1 : (some true) = some r := by rw [if_pos rfl] at H; exact H
    clear H
    have H := H1
    clear H1
    obtain rfl := Option.some.inj H
    go_wp2
    go_ret
    exact ⟨by rfl, by repeat (first | exact Drawn0.refl _ | apply Drawn0.step)⟩
   ·replace c13 := Bool.eq_false_iff.mpr c13
    subst c13
    have H1 : (tribunalref04_SimpleByte.l0 kj1 a0 0) = some r := by rw [if_neg (show ¬ (false = true) by decide)] at H; exact H
    clear H
    have H := H1
    clear H1
    have H' := Aside0.mk H
    clear H
    go_wp2
    go_loopg [3] kj1 (fun kq v3 w' => ∃ (x3_2 : Int), v3 = .int .i64 x3_2 ∧ Aside0 (tribunalref04_SimpleByte.l0 kq a0 x3_2 = some r) ∧ Aside0 (kq ≤ kj1) ∧ Drawn0 w w')
    case atStart => exact ⟨(0), (by rfl), H', ⟨Nat.le_refl _⟩, by repeat (first | exact Drawn0.refl _ | apply Drawn0.step)⟩
    case round =>
     clear H'
     obtain ⟨x3_2, rfl, HA, HK2, ⟨m2, rfl⟩⟩ := hrel
     cases gk with
     | zero => exact absurd HA.out (by simp [tribunalref04_SimpleByte.l0])
     | succ k2 =>
      have H := HA.out
      clear HA
      simp only [tribunalref04_SimpleByte.l0] at H
      by_cases c14 : x3_2 < 17
      ·rw [if_pos c14] at H
       have c14b0 : decide (x3_2 < 17) = true := decide_eq_true c14
       clear c14
       by_cases c15 : 0 ≤ x3_2
       ·rw [if_pos c15] at H
        have c15b0 : decide (0 ≤ x3_2) = true := decide_eq_true c15
        clear c15
        by_cases c17 : (bt (⟨#[126, 33, 64, 36, 37, 94, 38, 42, 95, 45, 43, 61, 60, 62, 46, 63, 47]⟩ : ByteArray) x3_2) = a0
        ·rw [if_pos c17] at H
         have c17b0 : ((bt (⟨#[126, 33, 64, 36, 37, 94, 38, 42, 95, 45, 43, 61, 60, 62, 46, 63, 47]⟩ : ByteArray) x3_2) == a0) = true := beq_iff_eq.mpr c17
         have c17b1 : ((bt (⟨#[126, 33, 64, 36, 37, 94, 38, 42, 95, 45, 43, 61, 60, 62, 46, 63, 47]⟩ : ByteArray) x3_2) != a0) = false := bne_eq_false_iff_eq.mpr c17
         clear c17
         obtain rfl := Option.some.inj H
         have p16 : 0 ≤ (x3_2 : Int) := of_decide_eq_true (by assumption)
         have q16 : x3_2 < (17 : Int) := of_decide_eq_true (by assumption)
         have hx16 := bt_at (⟨#[126, 33, 64, 36, 37, 94, 38, 42, 95, 45, 43, 61, 60, 62, 46, 63, 47]⟩ : ByteArray) x3_2
         replace p16 := eq_true p16
         replace q16 := eq_true q16
         go_wp2
         go_ret
         exact ⟨by rfl, by repeat (first | exact Drawn0.refl _ | apply Drawn0.step)⟩
        ·rw [if_neg c17] at H
         have c17b0 : ((bt (⟨#[126, 33, 64, 36, 37, 94, 38, 42, 95, 45, 43, 61, 60, 62, 46, 63, 47]⟩ : ByteArray) x3_2) == a0) = false := beq_eq_false_iff_ne.mpr c17
         have c17b1 : ((bt (⟨#[126, 33, 64, 36, 37, 94, 38, 42, 95, 45, 43, 61, 60, 62, 46, 63, 47]⟩ : ByteArray) x3_2) != a0) = true := bne_iff_ne.mpr c17
         have H' := Aside0.mk H
         clear H
         have p16 : 0 ≤ (x3_2 : Int) := of_decide_eq_true (by assumption)
         have q16 : x3_2 < (17 : Int) := of_decide_eq_true (by assumption)
         have hx16 := bt_at (⟨#[126, 33, 64, 36, 37, 94, 38, 42, 95, 45, 43, 61, 60, 62, 46, 63, 47]⟩ : ByteArray) x3_2
         replace p16 := eq_true p16
         replace q16 := eq_true q16
         go_wp2
         go_roundg k2
         case measure => have := HJ1.out; have := HK2.out; omega
         case rel => exact ⟨(wrap64 (x3_2 + 1)), (by rfl), H', ⟨by have := HJ1.out; have := HK2.out; omega⟩, by repeat (first | exact Drawn0.refl _ | apply Drawn0.step)⟩
       ·rw [if_neg c15] at H
        exact absurd H (by simp)
      ·rw [if_neg c14] at H
       have c14b0 : decide (x3_2 < 17) = false := decide_eq_false c14
       clear c14
       obtain rfl := Option.some.inj H
       go_wp2
       go_ret
       exact ⟨by rfl, by repeat (first | exact Drawn0.refl _ | apply Drawn0.step)⟩

/-! ### tribunalref06_Numeral: function 78 -/
def tribunalref06_Numeral.l0 : Nat → ByteArray → Int → Option (Bool)
 | 0, _, _ => none
 | k + 1, x0, x3 => if x3 < (x0.size : Int) then (if 0 ≤ x3 then ((tribunalref06_Digit.f (bt x0 x3)).bind fun t503 => (if t503 = true then (tribunalref06_Numeral.l0 k x0 (wrap64 (x3 + 1))) else (some false))) else (none)) else (if x0.toList = ([48] : List UInt8) then (some true) else (if (x0.size : Int) > 0 then (if 0 < (x0.size : Int) then (some ((bt x0 0) != 48)) else (none)) else (some false)))
def tribunalref06_Numeral.f (k : Nat) (a0 : ByteArray) : Option (Bool) := tribunalref06_Numeral.l0 k a0 0
theorem tribunalref06_Numeral.mono_l : ∀ k, (∀ y0 y1, LeO (tribunalref06_Numeral.l0 k y0 y1) (tribunalref06_Numeral.l0 (k + 1) y0 y1))
 | 0 => fun _ _ r h => by simp [tribunalref06_Numeral.l0] at h
 | k + 1 => by
  have ih0 := tribunalref06_Numeral.mono_l k
  ·intro y0 y1
   unfold tribunalref06_Numeral.l0
   repeat' first
   | (with_reducible exact ih0 _ _)
   | (with_reducible exact LeO.refl _)
   | (with_reducible refine LeO.ite ?_ ?_)
   | (with_reducible refine LeO.bind ?_ (fun _ => ?_))
theorem tribunalref06_Numeral.mono : ∀ a0 k, LeO (tribunalref06_Numeral.f k a0) (tribunalref06_Numeral.f (k + 1) a0) := by
 intro a0 k
 have ih0 := tribunalref06_Numeral.mono_l k
 unfold tribunalref06_Numeral.f
 repeat' first
  | (with_reducible exact ih0 _ _)
set_option maxHeartbeats 8000000 in
set_option maxRecDepth 100000 in
theorem tribunalref06_Numeral.calls (k : Nat) (a0 : ByteArray) (r : Bool) (w : World) (h : tribunalref06_Numeral.f k a0 = some r) :
 Calls Tryz.prog 98 #[.string a0] w fun e w' => e = .returned (.bool r) ∧ Drawn0 w w' := by
 have H : (tribunalref06_Numeral.l0 k a0 0) = some r := h
 clear h
 have H' := Aside0.mk H
 clear H
 go_enter Tryz.func98, Tryz.ntmps98
 go_wp2
 go_loopg [3] k (fun kq v3 w' => ∃ (x3_1 : Int), v3 = .int .i64 x3_1 ∧ Aside0 (tribunalref06_Numeral.l0 kq a0 x3_1 = some r) ∧ Aside0 (kq ≤ k) ∧ Drawn0 w w')
 case atStart => exact ⟨(0), (by rfl), H', ⟨Nat.le_refl _⟩, by repeat (exact Drawn0.refl _)⟩
 case round =>
  clear H'
  obtain ⟨x3_1, rfl, HA, HK1, ⟨m1, rfl⟩⟩ := hrel
  cases gk with
  | zero => exact absurd HA.out (by simp [tribunalref06_Numeral.l0])
  | succ k1 =>
   have H := HA.out
   clear HA
   simp only [tribunalref06_Numeral.l0] at H
   by_cases c2 : x3_1 < (a0.size : Int)
   ·rw [if_pos c2] at H
    have c2b0 : decide (x3_1 < (a0.size : Int)) = true := decide_eq_true c2
    clear c2
    by_cases c3 : 0 ≤ x3_1
    ·rw [if_pos c3] at H
     have c3b0 : decide (0 ≤ x3_1) = true := decide_eq_true c3
     clear c3
     replace H := Option.bind_eq_some_iff.mp H
     obtain ⟨t503, A50, H⟩ := H
     replace H : (if t503 = true then (tribunalref06_Numeral.l0 k1 a0 (wrap64 (x3_1 + 1))) else (some false)) = some r := H
     have A5 := Aside0.mk A50
     clear A50
     by_cases c6 : t503 = true
     ·subst c6
      have H1 : (tribunalref06_Numeral.l0 k1 a0 (wrap64 (x3_1 + 1))) = some r := by rw [if_pos rfl] at H; exact H
      clear H
      have H := H1
      clear H1
      have H' := Aside0.mk H
      clear H
      have p4 : 0 ≤ (x3_1 : Int) := of_decide_eq_true (by assumption)
      have q4 : x3_1 < (a0.size : Int) := of_decide_eq_true (by assumption)
      have hx4 := bt_at a0 x3_1
      replace p4 := eq_true p4
      replace q4 := eq_true q4
      go_wp2_with ((((with_reducible refine gate_callee (f := 103) rfl ?_); refine goesL_ (some 13) rfl rfl Tryz.func103 (by kernel_rfl) rfl #[.int .u8 (bt a0 x3_1)] rfl (by (try simp only [List.map_toArray, List.map_cons, List.map_nil]); rfl) ?_; (with_reducible refine (tribunalref06_Digit.calls (bt a0 x3_1) true _ A5.out).mono ?_); rintro e w' ⟨rfl, ⟨nd, rfl⟩⟩; refine ⟨_, rfl, ?_⟩)))
      go_roundg k1
      case measure => have := HK1.out; omega
      case rel => exact ⟨(wrap64 (x3_1 + 1)), (by rfl), H', ⟨by have := HK1.out; omega⟩, by repeat (first | exact Drawn0.refl _ | apply Drawn0.step)⟩
     ·replace c6 := Bool.eq_false_iff.mpr c6
      subst c6
      have H1 : (some false) = some r := by rw [if_neg (show ¬ (false = true) by decide)] at H; exact H
      clear H
      have H := H1
      clear H1
      obtain rfl := Option.some.inj H
      have p4 : 0 ≤ (x3_1 : Int) := of_decide_eq_true (by assumption)
      have q4 : x3_1 < (a0.size : Int) := of_decide_eq_true (by assumption)
      have hx4 := bt_at a0 x3_1
      replace p4 := eq_true p4
      replace q4 := eq_true q4
      go_wp2_with ((((with_reducible refine gate_callee (f := 103) rfl ?_); refine goesL_ (some 13) rfl rfl Tryz.func103 (by kernel_rfl) rfl #[.int .u8 (bt a0 x3_1)] rfl (by (try simp only [List.map_toArray, List.map_cons, List.map_nil]); rfl) ?_; (with_reducible refine (tribunalref06_Digit.calls (bt a0 x3_1) false _ A5.out).mono ?_); rintro e w' ⟨rfl, ⟨nd, rfl⟩⟩; refine ⟨_, rfl, ?_⟩)))
      go_ret
      exact ⟨by rfl, by repeat (first | exact Drawn0.refl _ | apply Drawn0.step)⟩
    ·rw [if_neg c3] at H
     exact absurd H (by simp)
   ·rw [if_neg c2] at H
    have c2b0 : decide (x3_1 < (a0.size : Int)) = false := decide_eq_false c2
    clear c2
    by_cases c7 : a0.toList = ([48] : List UInt8)
    ·rw [if_pos c7] at H
     have c7b0 : (a0.toList == ([48] : List UInt8)) = true := beq_iff_eq.mpr c7
     have c7b1 : (a0.toList != ([48] : List UInt8)) = false := bne_eq_false_iff_eq.mpr c7
     clear c7
     obtain rfl := Option.some.inj H
     go_wp2
     go_ret
     exact ⟨by rfl, by repeat (first | exact Drawn0.refl _ | apply Drawn0.step)⟩
    ·rw [if_neg c7] at H
     have c7b0 : (a0.toList == ([48] : List UInt8)) = false := beq_eq_false_iff_ne.mpr c7
     have c7b1 : (a0.toList != ([48] : List UInt8)) = true := bne_iff_ne.mpr c7
     by_cases c8 : (a0.size : Int) > 0
     ·rw [if_pos c8] at H
      have c8b0 : decide (0 < (a0.size : Int)) = true := decide_eq_true c8
      have c8b1 : decide (0 < a0.size) = true := decide_eq_true (by omega)
      clear c8
      by_cases c9 : 0 < (a0.size : Int)
      ·rw [if_pos c9] at H
       have c9b0 : decide (0 < (a0.size : Int)) = true := decide_eq_true c9
       have c9b1 : decide (0 < a0.size) = true := decide_eq_true (by omega)
       clear c9
       obtain rfl := Option.some.inj H
       have p10 : 0 ≤ (0 : Int) := (by omega)
       have q10 : 0 < a0.size := (by have : (0 : Int) < (a0.size : Int) := of_decide_eq_true (by assumption); omega)
       have hx10 : ∀ h : 0 < a0.size, ((a0[0]'h).toNat : Int) = bt a0 0 := bt_at a0 0
       clear p10
       have qi10 : (0 < (a0.size : Int)) = True := eq_true (of_decide_eq_true (by assumption))
       replace q10 := eq_true q10
       go_wp2
       go_ret
       exact ⟨by rfl, by repeat (first | exact Drawn0.refl _ | apply Drawn0.step)⟩
      ·rw [if_neg c9] at H
       exact absurd H (by simp)
     ·rw [if_neg c8] at H
      have c8b0 : decide (0 < (a0.size : Int)) = false := decide_eq_false c8
      have c8b1 : decide (0 < a0.size) = false := decide_eq_false (by omega)
      clear c8
      obtain rfl := Option.some.inj H
      go_wp2
      go_ret
      exact ⟨by rfl, by repeat (first | exact Drawn0.refl _ | apply Drawn0.step)⟩

/-! ### tribunalref06_all: function 80 -/
def tribunalref06_all.l0 : Nat → ByteArray → Int → Int → Option (Bool)
 | 0, _, _, _ => none
 | k + 1, x0, x1, x5 => if x5 < (x0.size : Int) then (if x1 = 10 then (if 0 ≤ x5 then ((tribunalref06_Digit.f (bt x0 x5)).bind fun t505 => (if t505 = true then (if x1 = 16 then ((tribunalref06_HexDigit.f (bt x0 x5)).bind fun t506 => (if t506 = true then (if x1 = 2 then (if (bt x0 x5) = 48 then (tribunalref06_all.l0 k x0 x1 (wrap64 (x5 + 1))) else (if (bt x0 x5) = 49 then (tribunalref06_all.l0 k x0 x1 (wrap64 (x5 + 1))) else (some false))) else (tribunalref06_all.l0 k x0 x1 (wrap64 (x5 + 1)))) else (some false))) else (if x1 = 2 then (if (bt x0 x5) = 48 then (tribunalref06_all.l0 k x0 x1 (wrap64 (x5 + 1))) else (if (bt x0 x5) = 49 then (tribunalref06_all.l0 k x0 x1 (wrap64 (x5 + 1))) else (some false))) else (tribunalref06_all.l0 k x0 x1 (wrap64 (x5 + 1))))) else (some false))) else (none)) else (if x1 = 16 then (if 0 ≤ x5 then ((tribunalref06_HexDigit.f (bt x0 x5)).bind fun t507 => (if t507 = true then (if x1 = 2 then (if (bt x0 x5) = 48 then (tribunalref06_all.l0 k x0 x1 (wrap64 (x5 + 1))) else (if (bt x0 x5) = 49 then (tribunalref06_all.l0 k x0 x1 (wrap64 (x5 + 1))) else (some false))) else (tribunalref06_all.l0 k x0 x1 (wrap64 (x5 + 1)))) else (some false))) else (none)) else (if x1 = 2 then (if 0 ≤ x5 then (if (bt x0 x5) = 48 then (tribunalref06_all.l0 k x0 x1 (wrap64 (x5 + 1))) else (if (bt x0 x5) = 49 then (tribunalref06_all.l0 k x0 x1 (wrap64 (x5 + 1))) else (some false))) else (none)) else (tribunalref06_all.l0 k x0 x1 (wrap64 (x5 + 1)))))) else (some (decide ((x0.size : Int) > 0)))
def tribunalref06_all.f (k : Nat) (a0 : ByteArray) (a1 : Int) : Option (Bool) := tribunalref06_all.l0 k a0 a1 0
theorem tribunalref06_all.mono_l : ∀ k, (∀ y0 y1 y2, LeO (tribunalref06_all.l0 k y0 y1 y2) (tribunalref06_all.l0 (k + 1) y0 y1 y2))
 | 0 => fun _ _ _ r h => by simp [tribunalref06_all.l0] at h
 | k + 1 => by
  have ih0 := tribunalref06_all.mono_l k
  ·intro y0 y1 y2
   unfold tribunalref06_all.l0
   repeat' first
   | (with_reducible exact ih0 _ _ _)
   | (with_reducible exact LeO.refl _)
   | (with_reducible refine LeO.ite ?_ ?_)
   | (with_reducible refine LeO.bind ?_ (fun _ => ?_))
theorem tribunalref06_all.mono : ∀ a0 a1 k, LeO (tribunalref06_all.f k a0 a1) (tribunalref06_all.f (k + 1) a0 a1) := by
 intro a0 a1 k
 have ih0 := tribunalref06_all.mono_l k
 unfold tribunalref06_all.f
 repeat' first
  | (with_reducible exact ih0 _ _ _)
set_option maxHeartbeats 8000000 in
set_option maxRecDepth 100000 in
theorem tribunalref06_all.calls (k : Nat) (a0 : ByteArray) (a1 : Int) (r : Bool) (w : World) (h : tribunalref06_all.f k a0 a1 = some r) :
 Calls Tryz.prog 100 #[.string a0, .int .i64 a1] w fun e w' => e = .returned (.bool r) ∧ Drawn0 w w' := by
 have H : (tribunalref06_all.l0 k a0 a1 0) = some r := h
 clear h
 have H' := Aside0.mk H
 clear H
 go_enter Tryz.func100, Tryz.ntmps100
 go_wp2
 go_loopg [5] k (fun kq v5 w' => ∃ (x5_1 : Int), v5 = .int .i64 x5_1 ∧ Aside0 (tribunalref06_all.l0 kq a0 a1 x5_1 = some r) ∧ Aside0 (kq ≤ k) ∧ Drawn0 w w')
 case atStart => exact ⟨(0), (by rfl), H', ⟨Nat.le_refl _⟩, by repeat (exact Drawn0.refl _)⟩
 case round =>
  clear H'
  obtain ⟨x5_1, rfl, HA, HK1, ⟨m1, rfl⟩⟩ := hrel
  cases gk with
  | zero => exact absurd HA.out (by simp [tribunalref06_all.l0])
  | succ k1 =>
   have H := HA.out
   clear HA
   simp only [tribunalref06_all.l0] at H
   by_cases c3 : x5_1 < (a0.size : Int)
   ·rw [if_pos c3] at H
    have c3b0 : decide (x5_1 < (a0.size : Int)) = true := decide_eq_true c3
    clear c3
    by_cases c4 : a1 = 10
    ·rw [if_pos c4] at H
     have c4b0 : (a1 == 10) = true := beq_iff_eq.mpr c4
     have c4b1 : (a1 != 10) = false := bne_eq_false_iff_eq.mpr c4
     clear c4
     by_cases c5 : 0 ≤ x5_1
     ·rw [if_pos c5] at H
      have c5b0 : decide (0 ≤ x5_1) = true := decide_eq_true c5
      clear c5
      replace H := Option.bind_eq_some_iff.mp H
      obtain ⟨t505, A70, H⟩ := H
      replace H : (if t505 = true then (if a1 = 16 then ((tribunalref06_HexDigit.f (bt a0 x5_1)).bind fun t506 => (if t506 = true then (if a1 = 2 then (if (bt a0 x5_1) = 48 then (tribunalref06_all.l0 k1 a0 a1 (wrap64 (x5_1 + 1))) else (if (bt a0 x5_1) = 49 then (tribunalref06_all.l0 k1 a0 a1 (wrap64 (x5_1 + 1))) else (some false))) else (tribunalref06_all.l0 k1 a0 a1 (wrap64 (x5_1 + 1)))) else (some false))) else (if a1 = 2 then (if (bt a0 x5_1) = 48 then (tribunalref06_all.l0 k1 a0 a1 (wrap64 (x5_1 + 1))) else (if (bt a0 x5_1) = 49 then (tribunalref06_all.l0 k1 a0 a1 (wrap64 (x5_1 + 1))) else (some false))) else (tribunalref06_all.l0 k1 a0 a1 (wrap64 (x5_1 + 1))))) else (some false)) = some r := H
      have A7 := Aside0.mk A70
      clear A70
      by_cases c8 : t505 = true
      ·subst c8
       have H1 : (if a1 = 16 then ((tribunalref06_HexDigit.f (bt a0 x5_1)).bind fun t506 => (if t506 = true then (if a1 = 2 then (if (bt a0 x5_1) = 48 then (tribunalref06_all.l0 k1 a0 a1 (wrap64 (x5_1 + 1))) else (if (bt a0 x5_1) = 49 then (tribunalref06_all.l0 k1 a0 a1 (wrap64 (x5_1 + 1))) else (some false))) else (tribunalref06_all.l0 k1 a0 a1 (wrap64 (x5_1 + 1)))) else (some false))) else (if a1 = 2 then (if (bt a0 x5_1) = 48 then (tribunalref06_all.l0 k1 a0 a1 (wrap64 (x5_1 + 1))) else (if (bt a0 x5_1) = 49 then (tribunalref06_all.l0 k1 a0 a1 (wrap64 (x5_1 + 1))) else (some false))) else (tribunalref06_all.l0 k1 a0 a1 (wrap64 (x5_1 + 1))))) = some r := by rw [if_pos rfl] at H; exact H
       clear H
       have H := H1
       clear H1
       by_cases c9 : a1 = 16
       ·rw [if_pos c9] at H
        have c9b0 : (a1 == 16) = true := beq_iff_eq.mpr c9
        have c9b1 : (a1 != 16) = false := bne_eq_false_iff_eq.mpr c9
        clear c9
        replace H := Option.bind_eq_some_iff.mp H
        obtain ⟨t506, A110, H⟩ := H
        replace H : (if t506 = true then (if a1 = 2 then (if (bt a0 x5_1) = 48 then (tribunalref06_all.l0 k1 a0 a1 (wrap64 (x5_1 + 1))) else (if (bt a0 x5_1) = 49 then (tribunalref06_all.l0 k1 a0 a1 (wrap64 (x5_1 + 1))) else (some false))) else (tribunalref06_all.l0 k1 a0 a1 (wrap64 (x5_1 + 1)))) else (some false)) = some r := H
        have A11 := Aside0.mk A110
        clear A110
        by_cases c12 : t506 = true
        ·subst c12
         have H1 : (if a1 = 2 then (if (bt a0 x5_1) = 48 then (tribunalref06_all.l0 k1 a0 a1 (wrap64 (x5_1 + 1))) else (if (bt a0 x5_1) = 49 then (tribunalref06_all.l0 k1 a0 a1 (wrap64 (x5_1 + 1))) else (some false))) else (tribunalref06_all.l0 k1 a0 a1 (wrap64 (x5_1 + 1)))) = some r := by rw [if_pos rfl] at H; exact H
         clear H
         have H := H1
         clear H1
         by_cases c13 : a1 = 2
         ·rw [if_pos c13] at H
          have c13b0 : (a1 == 2) = true := beq_iff_eq.mpr c13
          have c13b1 : (a1 != 2) = false := bne_eq_false_iff_eq.mpr c13
          clear c13
          by_cases c15 : (bt a0 x5_1) = 48
          ·rw [if_pos c15] at H
           have c15b0 : ((bt a0 x5_1) == 48) = true := beq_iff_eq.mpr c15
           have c15b1 : ((bt a0 x5_1) != 48) = false := bne_eq_false_iff_eq.mpr c15
           clear c15
           have H' := Aside0.mk H
           clear H
           have p6 : 0 ≤ (x5_1 : Int) := of_decide_eq_true (by assumption)
           have q6 : x5_1 < (a0.size : Int) := of_decide_eq_true (by assumption)
           have hx6 := bt_at a0 x5_1
           replace p6 := eq_true p6
           replace q6 := eq_true q6
           go_wp2_with (first | (go_at_call 103; (with_reducible refine (tribunalref06_Digit.calls (bt a0 x5_1) true _ A7.out).mono ?_); rintro e w' ⟨rfl, ⟨nd, rfl⟩⟩; have p10 : 0 ≤ (x5_1 : Int) := of_decide_eq_true (by assumption); have q10 : x5_1 < (a0.size : Int) := of_decide_eq_true (by assumption); have hx10 := bt_at a0 x5_1; replace p10 := eq_true p10; replace q10 := eq_true q10) | (go_at_call 116; (with_reducible refine (tribunalref06_HexDigit.calls (bt a0 x5_1) true _ A11.out).mono ?_); rintro e w' ⟨rfl, ⟨nd, rfl⟩⟩; have p14 : 0 ≤ (x5_1 : Int) := of_decide_eq_true (by assumption); have q14 : x5_1 < (a0.size : Int) := of_decide_eq_true (by assumption); have hx14 := bt_at a0 x5_1; replace p14 := eq_true p14; replace q14 := eq_true q14))
           go_roundg k1
           case measure => have := HK1.out; omega
           case rel => exact ⟨(wrap64 (x5_1 + 1)), (by rfl), H', ⟨by have := HK1.out; omega⟩, by repeat (first | exact Drawn0.refl _ | apply Drawn0.step)⟩
          ·rw [if_neg c15] at H
           have c15b0 : ((bt a0 x5_1) == 48) = false := beq_eq_false_iff_ne.mpr c15
           have c15b1 : ((bt a0 x5_1) != 48) = true := bne_iff_ne.mpr c15
           by_cases c17 : (bt a0 x5_1) = 49
           ·rw [if_pos c17] at H
            have c17b0 : ((bt a0 x5_1) == 49) = true := beq_iff_eq.mpr c17
            have c17b1 : ((bt a0 x5_1) != 49) = false := bne_eq_false_iff_eq.mpr c17
            clear c17
            have H' := Aside0.mk H
            clear H
            have p6 : 0 ≤ (x5_1 : Int) := of_decide_eq_true (by assumption)
            have q6 : x5_1 < (a0.size : Int) := of_decide_eq_true (by assumption)
            have hx6 := bt_at a0 x5_1
            replace p6 := eq_true p6
            replace q6 := eq_true q6
            go_wp2_with (first | (go_at_call 103; (with_reducible refine (tribunalref06_Digit.calls (bt a0 x5_1) true _ A7.out).mono ?_); rintro e w' ⟨rfl, ⟨nd, rfl⟩⟩; have p10 : 0 ≤ (x5_1 : Int) := of_decide_eq_true (by assumption); have q10 : x5_1 < (a0.size : Int) := of_decide_eq_true (by assumption); have hx10 := bt_at a0 x5_1; replace p10 := eq_true p10; replace q10 := eq_true q10) | (go_at_call 116; (with_reducible refine (tribunalref06_HexDigit.calls (bt a0 x5_1) true _ A11.out).mono ?_); rintro e w' ⟨rfl, ⟨nd, rfl⟩⟩; have p14 : 0 ≤ (x5_1 : Int) := of_decide_eq_true (by assumption); have q14 : x5_1 < (a0.size : Int) := of_decide_eq_true (by assumption); have hx14 := bt_at a0 x5_1; replace p14 := eq_true p14; replace q14 := eq_true q14; have p16 : 0 ≤ (x5_1 : Int) := of_decide_eq_true (by assumption); have q16 : x5_1 < (a0.size : Int) := of_decide_eq_true (by assumption); have hx16 := bt_at a0 x5_1; replace p16 := eq_true p16; replace q16 := eq_true q16))
            go_roundg k1
            case measure => have := HK1.out; omega
            case rel => exact ⟨(wrap64 (x5_1 + 1)), (by rfl), H', ⟨by have := HK1.out; omega⟩, by repeat (first | exact Drawn0.refl _ | apply Drawn0.step)⟩
           ·rw [if_neg c17] at H
            have c17b0 : ((bt a0 x5_1) == 49) = false := beq_eq_false_iff_ne.mpr c17
            have c17b1 : ((bt a0 x5_1) != 49) = true := bne_iff_ne.mpr c17
            obtain rfl := Option.some.inj H
            have p6 : 0 ≤ (x5_1 : Int) := of_decide_eq_true (by assumption)
            have q6 : x5_1 < (a0.size : Int) := of_decide_eq_true (by assumption)
            have hx6 := bt_at a0 x5_1
            replace p6 := eq_true p6
            replace q6 := eq_true q6
            go_wp2_with (first | (go_at_call 103; (with_reducible refine (tribunalref06_Digit.calls (bt a0 x5_1) true _ A7.out).mono ?_); rintro e w' ⟨rfl, ⟨nd, rfl⟩⟩; have p10 : 0 ≤ (x5_1 : Int) := of_decide_eq_true (by assumption); have q10 : x5_1 < (a0.size : Int) := of_decide_eq_true (by assumption); have hx10 := bt_at a0 x5_1; replace p10 := eq_true p10; replace q10 := eq_true q10) | (go_at_call 116; (with_reducible refine (tribunalref06_HexDigit.calls (bt a0 x5_1) true _ A11.out).mono ?_); rintro e w' ⟨rfl, ⟨nd, rfl⟩⟩; have p14 : 0 ≤ (x5_1 : Int) := of_decide_eq_true (by assumption); have q14 : x5_1 < (a0.size : Int) := of_decide_eq_true (by assumption); have hx14 := bt_at a0 x5_1; replace p14 := eq_true p14; replace q14 := eq_true q14; have p16 : 0 ≤ (x5_1 : Int) := of_decide_eq_true (by assumption); have q16 : x5_1 < (a0.size : Int) := of_decide_eq_true (by assumption); have hx16 := bt_at a0 x5_1; replace p16 := eq_true p16; replace q16 := eq_true q16))
            go_ret
            exact ⟨by rfl, by repeat (first | exact Drawn0.refl _ | apply Drawn0.step)⟩
         ·rw [if_neg c13] at H
          have c13b0 : (a1 == 2) = false := beq_eq_false_iff_ne.mpr c13
          have c13b1 : (a1 != 2) = true := bne_iff_ne.mpr c13
          have H' := Aside0.mk H
          clear H
          have p6 : 0 ≤ (x5_1 : Int) := of_decide_eq_true (by assumption)
          have q6 : x5_1 < (a0.size : Int) := of_decide_eq_true (by assumption)
          have hx6 := bt_at a0 x5_1
          replace p6 := eq_true p6
          replace q6 := eq_true q6
          go_wp2_with (first | (go_at_call 103; (with_reducible refine (tribunalref06_Digit.calls (bt a0 x5_1) true _ A7.out).mono ?_); rintro e w' ⟨rfl, ⟨nd, rfl⟩⟩; have p10 : 0 ≤ (x5_1 : Int) := of_decide_eq_true (by assumption); have q10 : x5_1 < (a0.size : Int) := of_decide_eq_true (by assumption); have hx10 := bt_at a0 x5_1; replace p10 := eq_true p10; replace q10 := eq_true q10) | (go_at_call 116; (with_reducible refine (tribunalref06_HexDigit.calls (bt a0 x5_1) true _ A11.out).mono ?_); rintro e w' ⟨rfl, ⟨nd, rfl⟩⟩))
          go_roundg k1
          case measure => have := HK1.out; omega
          case rel => exact ⟨(wrap64 (x5_1 + 1)), (by rfl), H', ⟨by have := HK1.out; omega⟩, by repeat (first | exact Drawn0.refl _ | apply Drawn0.step)⟩
        ·replace c12 := Bool.eq_false_iff.mpr c12
         subst c12
         have H1 : (some false) = some r := by rw [if_neg (show ¬ (false = true) by decide)] at H; exact H
         clear H
         have H := H1
         clear H1
         obtain rfl := Option.some.inj H
         have p6 : 0 ≤ (x5_1 : Int) := of_decide_eq_true (by assumption)
         have q6 : x5_1 < (a0.size : Int) := of_decide_eq_true (by assumption)
         have hx6 := bt_at a0 x5_1
         replace p6 := eq_true p6
         replace q6 := eq_true q6
         go_wp2_with (first | (go_at_call 103; (with_reducible refine (tribunalref06_Digit.calls (bt a0 x5_1) true _ A7.out).mono ?_); rintro e w' ⟨rfl, ⟨nd, rfl⟩⟩; have p10 : 0 ≤ (x5_1 : Int) := of_decide_eq_true (by assumption); have q10 : x5_1 < (a0.size : Int) := of_decide_eq_true (by assumption); have hx10 := bt_at a0 x5_1; replace p10 := eq_true p10; replace q10 := eq_true q10) | (go_at_call 116; (with_reducible refine (tribunalref06_HexDigit.calls (bt a0 x5_1) false _ A11.out).mono ?_); rintro e w' ⟨rfl, ⟨nd, rfl⟩⟩))
         go_ret
         exact ⟨by rfl, by repeat (first | exact Drawn0.refl _ | apply Drawn0.step)⟩
       ·rw [if_neg c9] at H
        have c9b0 : (a1 == 16) = false := beq_eq_false_iff_ne.mpr c9
        have c9b1 : (a1 != 16) = true := bne_iff_ne.mpr c9
        by_cases c18 : a1 = 2
        ·rw [if_pos c18] at H
         have c18b0 : (a1 == 2) = true := beq_iff_eq.mpr c18
         have c18b1 : (a1 != 2) = false := bne_eq_false_iff_eq.mpr c18
         clear c18
         by_cases c20 : (bt a0 x5_1) = 48
         ·rw [if_pos c20] at H
          have c20b0 : ((bt a0 x5_1) == 48) = true := beq_iff_eq.mpr c20
          have c20b1 : ((bt a0 x5_1) != 48) = false := bne_eq_false_iff_eq.mpr c20
          clear c20
          have H' := Aside0.mk H
          clear H
          have p6 : 0 ≤ (x5_1 : Int) := of_decide_eq_true (by assumption)
          have q6 : x5_1 < (a0.size : Int) := of_decide_eq_true (by assumption)
          have hx6 := bt_at a0 x5_1
          replace p6 := eq_true p6
          replace q6 := eq_true q6
          go_wp2_with (((go_at_call 103; (with_reducible refine (tribunalref06_Digit.calls (bt a0 x5_1) true _ A7.out).mono ?_); rintro e w' ⟨rfl, ⟨nd, rfl⟩⟩; have p19 : 0 ≤ (x5_1 : Int) := of_decide_eq_true (by assumption); have q19 : x5_1 < (a0.size : Int) := of_decide_eq_true (by assumption); have hx19 := bt_at a0 x5_1; replace p19 := eq_true p19; replace q19 := eq_true q19)))
          go_roundg k1
          case measure => have := HK1.out; omega
          case rel => exact ⟨(wrap64 (x5_1 + 1)), (by rfl), H', ⟨by have := HK1.out; omega⟩, by repeat (first | exact Drawn0.refl _ | apply Drawn0.step)⟩
         ·rw [if_neg c20] at H
          have c20b0 : ((bt a0 x5_1) == 48) = false := beq_eq_false_iff_ne.mpr c20
          have c20b1 : ((bt a0 x5_1) != 48) = true := bne_iff_ne.mpr c20
          by_cases c22 : (bt a0 x5_1) = 49
          ·rw [if_pos c22] at H
           have c22b0 : ((bt a0 x5_1) == 49) = true := beq_iff_eq.mpr c22
           have c22b1 : ((bt a0 x5_1) != 49) = false := bne_eq_false_iff_eq.mpr c22
           clear c22
           have H' := Aside0.mk H
           clear H
           have p6 : 0 ≤ (x5_1 : Int) := of_decide_eq_true (by assumption)
           have q6 : x5_1 < (a0.size : Int) := of_decide_eq_true (by assumption)
           have hx6 := bt_at a0 x5_1
           replace p6 := eq_true p6
           replace q6 := eq_true q6
           go_wp2_with (((go_at_call 103; (with_reducible refine (tribunalref06_Digit.calls (bt a0 x5_1) true _ A7.out).mono ?_); rintro e w' ⟨rfl, ⟨nd, rfl⟩⟩; have p19 : 0 ≤ (x5_1 : Int) := of_decide_eq_true (by assumption); have q19 : x5_1 < (a0.size : Int) := of_decide_eq_true (by assumption); have hx19 := bt_at a0 x5_1; replace p19 := eq_true p19; replace q19 := eq_true q19; have p21 : 0 ≤ (x5_1 : Int) := of_decide_eq_true (by assumption); have q21 : x5_1 < (a0.size : Int) := of_decide_eq_true (by assumption); have hx21 := bt_at a0 x5_1; replace p21 := eq_true p21; replace q21 := eq_true q21)))
           go_roundg k1
           case measure => have := HK1.out; omega
           case rel => exact ⟨(wrap64 (x5_1 + 1)), (by rfl), H', ⟨by have := HK1.out; omega⟩, by repeat (first | exact Drawn0.refl _ | apply Drawn0.step)⟩
          ·rw [if_neg c22] at H
           have c22b0 : ((bt a0 x5_1) == 49) = false := beq_eq_false_iff_ne.mpr c22
           have c22b1 : ((bt a0 x5_1) != 49) = true := bne_iff_ne.mpr c22
           obtain rfl := Option.some.inj H
           have p6 : 0 ≤ (x5_1 : Int) := of_decide_eq_true (by assumption)
           have q6 : x5_1 < (a0.size : Int) := of_decide_eq_true (by assumption)
           have hx6 := bt_at a0 x5_1
           replace p6 := eq_true p6
           replace q6 := eq_true q6
           go_wp2_with (((go_at_call 103; (with_reducible refine (tribunalref06_Digit.calls (bt a0 x5_1) true _ A7.out).mono ?_); rintro e w' ⟨rfl, ⟨nd, rfl⟩⟩; have p19 : 0 ≤ (x5_1 : Int) := of_decide_eq_true (by assumption); have q19 : x5_1 < (a0.size : Int) := of_decide_eq_true (by assumption); have hx19 := bt_at a0 x5_1; replace p19 := eq_true p19; replace q19 := eq_true q19; have p21 : 0 ≤ (x5_1 : Int) := of_decide_eq_true (by assumption); have q21 : x5_1 < (a0.size : Int) := of_decide_eq_true (by assumption); have hx21 := bt_at a0 x5_1; replace p21 := eq_true p21; replace q21 := eq_true q21)))
           go_ret
           exact ⟨by rfl, by repeat (first | exact Drawn0.refl _ | apply Drawn0.step)⟩
        ·rw [if_neg c18] at H
         have c18b0 : (a1 == 2) = false := beq_eq_false_iff_ne.mpr c18
         have c18b1 : (a1 != 2) = true := bne_iff_ne.mpr c18
         have H' := Aside0.mk H
         clear H
         have p6 : 0 ≤ (x5_1 : Int) := of_decide_eq_true (by assumption)
         have q6 : x5_1 < (a0.size : Int) := of_decide_eq_true (by assumption)
         have hx6 := bt_at a0 x5_1
         replace p6 := eq_true p6
         replace q6 := eq_true q6
         go_wp2_with (((go_at_call 103; (with_reducible refine (tribunalref06_Digit.calls (bt a0 x5_1) true _ A7.out).mono ?_); rintro e w' ⟨rfl, ⟨nd, rfl⟩⟩)))
         go_roundg k1
         case measure => have := HK1.out; omega
         case rel => exact ⟨(wrap64 (x5_1 + 1)), (by rfl), H', ⟨by have := HK1.out; omega⟩, by repeat (first | exact Drawn0.refl _ | apply Drawn0.step)⟩
      ·replace c8 := Bool.eq_false_iff.mpr c8
       subst c8
       have H1 : (some false) = some r := by rw [if_neg (show ¬ (false = true) by decide)] at H; exact H
       clear H
       have H := H1
       clear H1
       obtain rfl := Option.some.inj H
       have p6 : 0 ≤ (x5_1 : Int) := of_decide_eq_true (by assumption)
       have q6 : x5_1 < (a0.size : Int) := of_decide_eq_true (by assumption)
       have hx6 := bt_at a0 x5_1
       replace p6 := eq_true p6
       replace q6 := eq_true q6
       go_wp2_with (((go_at_call 103; (with_reducible refine (tribunalref06_Digit.calls (bt a0 x5_1) false _ A7.out).mono ?_); rintro e w' ⟨rfl, ⟨nd, rfl⟩⟩)))
       go_ret
       exact ⟨by rfl, by repeat (first | exact Drawn0.refl _ | apply Drawn0.step)⟩
     ·rw [if_neg c5] at H
      exact absurd H (by simp)
    ·rw [if_neg c4] at H
     have c4b0 : (a1 == 10) = false := beq_eq_false_iff_ne.mpr c4
     have c4b1 : (a1 != 10) = true := bne_iff_ne.mpr c4
     by_cases c23 : a1 = 16
     ·rw [if_pos c23] at H
      have c23b0 : (a1 == 16) = true := beq_iff_eq.mpr c23
      have c23b1 : (a1 != 16) = false := bne_eq_false_iff_eq.mpr c23
      clear c23
      by_cases c24 : 0 ≤ x5_1
      ·rw [if_pos c24] at H
       have c24b0 : decide (0 ≤ x5_1) = true := decide_eq_true c24
       clear c24
       replace H := Option.bind_eq_some_iff.mp H
       obtain ⟨t507, A260, H⟩ := H
       replace H : (if t507 = true then (if a1 = 2 then (if (bt a0 x5_1) = 48 then (tribunalref06_all.l0 k1 a0 a1 (wrap64 (x5_1 + 1))) else (if (bt a0 x5_1) = 49 then (tribunalref06_all.l0 k1 a0 a1 (wrap64 (x5_1 + 1))) else (some false))) else (tribunalref06_all.l0 k1 a0 a1 (wrap64 (x5_1 + 1)))) else (some false)) = some r := H
       have A26 := Aside0.mk A260
       clear A260
       by_cases c27 : t507 = true
       ·subst c27
        have H1 : (if a1 = 2 then (if (bt a0 x5_1) = 48 then (tribunalref06_all.l0 k1 a0 a1 (wrap64 (x5_1 + 1))) else (if (bt a0 x5_1) = 49 then (tribunalref06_all.l0 k1 a0 a1 (wrap64 (x5_1 + 1))) else (some false))) else (tribunalref06_all.l0 k1 a0 a1 (wrap64 (x5_1 + 1)))) = some r := by rw [if_pos rfl] at H; exact H
        clear H
        have H := H1
        clear H1
        by_cases c28 : a1 = 2
        ·rw [if_pos c28] at H
         have c28b0 : (a1 == 2) = true := beq_iff_eq.mpr c28
         have c28b1 : (a1 != 2) = false := bne_eq_false_iff_eq.mpr c28
         clear c28
         by_cases c30 : (bt a0 x5_1) = 48
         ·rw [if_pos c30] at H
          have c30b0 : ((bt a0 x5_1) == 48) = true := beq_iff_eq.mpr c30
          have c30b1 : ((bt a0 x5_1) != 48) = false := bne_eq_false_iff_eq.mpr c30
          clear c30
          have H' := Aside0.mk H
          clear H
          have p25 : 0 ≤ (x5_1 : Int) := of_decide_eq_true (by assumption)
          have q25 : x5_1 < (a0.size : Int) := of_decide_eq_true (by assumption)
          have hx25 := bt_at a0 x5_1
          replace p25 := eq_true p25
          replace q25 := eq_true q25
          go_wp2_with (((go_at_call 116; (with_reducible refine (tribunalref06_HexDigit.calls (bt a0 x5_1) true _ A26.out).mono ?_); rintro e w' ⟨rfl, ⟨nd, rfl⟩⟩; have p29 : 0 ≤ (x5_1 : Int) := of_decide_eq_true (by assumption); have q29 : x5_1 < (a0.size : Int) := of_decide_eq_true (by assumption); have hx29 := bt_at a0 x5_1; replace p29 := eq_true p29; replace q29 := eq_true q29)))
          go_roundg k1
          case measure => have := HK1.out; omega
          case rel => exact ⟨(wrap64 (x5_1 + 1)), (by rfl), H', ⟨by have := HK1.out; omega⟩, by repeat (first | exact Drawn0.refl _ | apply Drawn0.step)⟩
         ·rw [if_neg c30] at H
          have c30b0 : ((bt a0 x5_1) == 48) = false := beq_eq_false_iff_ne.mpr c30
          have c30b1 : ((bt a0 x5_1) != 48) = true := bne_iff_ne.mpr c30
          by_cases c32 : (bt a0 x5_1) = 49
          ·rw [if_pos c32] at H
           have c32b0 : ((bt a0 x5_1) == 49) = true := beq_iff_eq.mpr c32
           have c32b1 : ((bt a0 x5_1) != 49) = false := bne_eq_false_iff_eq.mpr c32
           clear c32
           have H' := Aside0.mk H
           clear H
           have p25 : 0 ≤ (x5_1 : Int) := of_decide_eq_true (by assumption)
           have q25 : x5_1 < (a0.size : Int) := of_decide_eq_true (by assumption)
           have hx25 := bt_at a0 x5_1
           replace p25 := eq_true p25
           replace q25 := eq_true q25
           go_wp2_with (((go_at_call 116; (with_reducible refine (tribunalref06_HexDigit.calls (bt a0 x5_1) true _ A26.out).mono ?_); rintro e w' ⟨rfl, ⟨nd, rfl⟩⟩; have p29 : 0 ≤ (x5_1 : Int) := of_decide_eq_true (by assumption); have q29 : x5_1 < (a0.size : Int) := of_decide_eq_true (by assumption); have hx29 := bt_at a0 x5_1; replace p29 := eq_true p29; replace q29 := eq_true q29; have p31 : 0 ≤ (x5_1 : Int) := of_decide_eq_true (by assumption); have q31 : x5_1 < (a0.size : Int) := of_decide_eq_true (by assumption); have hx31 := bt_at a0 x5_1; replace p31 := eq_true p31; replace q31 := eq_true q31)))
           go_roundg k1
           case measure => have := HK1.out; omega
           case rel => exact ⟨(wrap64 (x5_1 + 1)), (by rfl), H', ⟨by have := HK1.out; omega⟩, by repeat (first | exact Drawn0.refl _ | apply Drawn0.step)⟩
          ·rw [if_neg c32] at H
           have c32b0 : ((bt a0 x5_1) == 49) = false := beq_eq_false_iff_ne.mpr c32
           have c32b1 : ((bt a0 x5_1) != 49) = true := bne_iff_ne.mpr c32
           obtain rfl := Option.some.inj H
           have p25 : 0 ≤ (x5_1 : Int) := of_decide_eq_true (by assumption)
           have q25 : x5_1 < (a0.size : Int) := of_decide_eq_true (by assumption)
           have hx25 := bt_at a0 x5_1
           replace p25 := eq_true p25
           replace q25 := eq_true q25
           go_wp2_with (((go_at_call 116; (with_reducible refine (tribunalref06_HexDigit.calls (bt a0 x5_1) true _ A26.out).mono ?_); rintro e w' ⟨rfl, ⟨nd, rfl⟩⟩; have p29 : 0 ≤ (x5_1 : Int) := of_decide_eq_true (by assumption); have q29 : x5_1 < (a0.size : Int) := of_decide_eq_true (by assumption); have hx29 := bt_at a0 x5_1; replace p29 := eq_true p29; replace q29 := eq_true q29; have p31 : 0 ≤ (x5_1 : Int) := of_decide_eq_true (by assumption); have q31 : x5_1 < (a0.size : Int) := of_decide_eq_true (by assumption); have hx31 := bt_at a0 x5_1; replace p31 := eq_true p31; replace q31 := eq_true q31)))
           go_ret
           exact ⟨by rfl, by repeat (first | exact Drawn0.refl _ | apply Drawn0.step)⟩
        ·rw [if_neg c28] at H
         have c28b0 : (a1 == 2) = false := beq_eq_false_iff_ne.mpr c28
         have c28b1 : (a1 != 2) = true := bne_iff_ne.mpr c28
         have H' := Aside0.mk H
         clear H
         have p25 : 0 ≤ (x5_1 : Int) := of_decide_eq_true (by assumption)
         have q25 : x5_1 < (a0.size : Int) := of_decide_eq_true (by assumption)
         have hx25 := bt_at a0 x5_1
         replace p25 := eq_true p25
         replace q25 := eq_true q25
         go_wp2_with (((go_at_call 116; (with_reducible refine (tribunalref06_HexDigit.calls (bt a0 x5_1) true _ A26.out).mono ?_); rintro e w' ⟨rfl, ⟨nd, rfl⟩⟩)))
         go_roundg k1
         case measure => have := HK1.out; omega
         case rel => exact ⟨(wrap64 (x5_1 + 1)), (by rfl), H', ⟨by have := HK1.out; omega⟩, by repeat (first | exact Drawn0.refl _ | apply Drawn0.step)⟩
       ·replace c27 := Bool.eq_false_iff.mpr c27
        subst c27
        have H1 : (some false) = some r := by rw [if_neg (show ¬ (false = true) by decide)] at H; exact H
        clear H
        have H := H1
        clear H1
        obtain rfl := Option.some.inj H
        have p25 : 0 ≤ (x5_1 : Int) := of_decide_eq_true (by assumption)
        have q25 : x5_1 < (a0.size : Int) := of_decide_eq_true (by assumption)
        have hx25 := bt_at a0 x5_1
        replace p25 := eq_true p25
        replace q25 := eq_true q25
        go_wp2_with (((go_at_call 116; (with_reducible refine (tribunalref06_HexDigit.calls (bt a0 x5_1) false _ A26.out).mono ?_); rintro e w' ⟨rfl, ⟨nd, rfl⟩⟩)))
        go_ret
        exact ⟨by rfl, by repeat (first | exact Drawn0.refl _ | apply Drawn0.step)⟩
      ·rw [if_neg c24] at H
       exact absurd H (by simp)
     ·rw [if_neg c23] at H
      have c23b0 : (a1 == 16) = false := beq_eq_false_iff_ne.mpr c23
      have c23b1 : (a1 != 16) = true := bne_iff_ne.mpr c23
      by_cases c33 : a1 = 2
      ·rw [if_pos c33] at H
       have c33b0 : (a1 == 2) = true := beq_iff_eq.mpr c33
       have c33b1 : (a1 != 2) = false := bne_eq_false_iff_eq.mpr c33
       clear c33
       by_cases c34 : 0 ≤ x5_1
       ·rw [if_pos c34] at H
        have c34b0 : decide (0 ≤ x5_1) = true := decide_eq_true c34
        clear c34
        by_cases c36 : (bt a0 x5_1) = 48
        ·rw [if_pos c36] at H
         have c36b0 : ((bt a0 x5_1) == 48) = true := beq_iff_eq.mpr c36
         have c36b1 : ((bt a0 x5_1) != 48) = false := bne_eq_false_iff_eq.mpr c36
         clear c36
         have H' := Aside0.mk H
         clear H
         have p35 : 0 ≤ (x5_1 : Int) := of_decide_eq_true (by assumption)
         have q35 : x5_1 < (a0.size : Int) := of_decide_eq_true (by assumption)
         have hx35 := bt_at a0 x5_1
         replace p35 := eq_true p35
         replace q35 := eq_true q35
         go_wp2
         go_roundg k1
         case measure => have := HK1.out; omega
         case rel => exact ⟨(wrap64 (x5_1 + 1)), (by rfl), H', ⟨by have := HK1.out; omega⟩, by repeat (first | exact Drawn0.refl _ | apply Drawn0.step)⟩
        ·rw [if_neg c36] at H
         have c36b0 : ((bt a0 x5_1) == 48) = false := beq_eq_false_iff_ne.mpr c36
         have c36b1 : ((bt a0 x5_1) != 48) = true := bne_iff_ne.mpr c36
         by_cases c38 : (bt a0 x5_1) = 49
         ·rw [if_pos c38] at H
          have c38b0 : ((bt a0 x5_1) == 49) = true := beq_iff_eq.mpr c38
          have c38b1 : ((bt a0 x5_1) != 49) = false := bne_eq_false_iff_eq.mpr c38
          clear c38
          have H' := Aside0.mk H
          clear H
          have p35 : 0 ≤ (x5_1 : Int) := of_decide_eq_true (by assumption)
          have q35 : x5_1 < (a0.size : Int) := of_decide_eq_true (by assumption)
          have hx35 := bt_at a0 x5_1
          replace p35 := eq_true p35
          replace q35 := eq_true q35
          have p37 : 0 ≤ (x5_1 : Int) := of_decide_eq_true (by assumption)
          have q37 : x5_1 < (a0.size : Int) := of_decide_eq_true (by assumption)
          have hx37 := bt_at a0 x5_1
          replace p37 := eq_true p37
          replace q37 := eq_true q37
          go_wp2
          go_roundg k1
          case measure => have := HK1.out; omega
          case rel => exact ⟨(wrap64 (x5_1 + 1)), (by rfl), H', ⟨by have := HK1.out; omega⟩, by repeat (first | exact Drawn0.refl _ | apply Drawn0.step)⟩
         ·rw [if_neg c38] at H
          have c38b0 : ((bt a0 x5_1) == 49) = false := beq_eq_false_iff_ne.mpr c38
          have c38b1 : ((bt a0 x5_1) != 49) = true := bne_iff_ne.mpr c38
          obtain rfl := Option.some.inj H
          have p35 : 0 ≤ (x5_1 : Int) := of_decide_eq_true (by assumption)
          have q35 : x5_1 < (a0.size : Int) := of_decide_eq_true (by assumption)
          have hx35 := bt_at a0 x5_1
          replace p35 := eq_true p35
          replace q35 := eq_true q35
          have p37 : 0 ≤ (x5_1 : Int) := of_decide_eq_true (by assumption)
          have q37 : x5_1 < (a0.size : Int) := of_decide_eq_true (by assumption)
          have hx37 := bt_at a0 x5_1
          replace p37 := eq_true p37
          replace q37 := eq_true q37
          go_wp2
          go_ret
          exact ⟨by rfl, by repeat (first | exact Drawn0.refl _ | apply Drawn0.step)⟩
       ·rw [if_neg c34] at H
        exact absurd H (by simp)
      ·rw [if_neg c33] at H
       have c33b0 : (a1 == 2) = false := beq_eq_false_iff_ne.mpr c33
       have c33b1 : (a1 != 2) = true := bne_iff_ne.mpr c33
       have H' := Aside0.mk H
       clear H
       go_wp2
       go_roundg k1
       case measure => have := HK1.out; omega
       case rel => exact ⟨(wrap64 (x5_1 + 1)), (by rfl), H', ⟨by have := HK1.out; omega⟩, by repeat (first | exact Drawn0.refl _ | apply Drawn0.step)⟩
   ·rw [if_neg c3] at H
    have c3b0 : decide (x5_1 < (a0.size : Int)) = false := decide_eq_false c3
    clear c3
    obtain rfl := Option.some.inj H
    go_wp2
    go_ret
    exact ⟨by rfl, by repeat (first | exact Drawn0.refl _ | apply Drawn0.step)⟩

/-! ### tribunalref06_Decimal: function 79 -/
def tribunalref06_Decimal.l0 : Nat → ByteArray → Int → Option (Bool)
 | 0, _, _ => none
 | k + 1, x0, x3 => if x3 < (x0.size : Int) then (if 0 ≤ x3 then (if (bt x0 x3) = 46 then (if x3 ≤ (x0.size : Int) then ((tribunalref06_Numeral.f k (x0.extract 0 (x3 : Int).toNat)).bind fun t508 => (if t508 = true then (if 0 ≤ (wrap64 (x3 + 1)) then (if (wrap64 (x3 + 1)) ≤ (x0.size : Int) then ((tribunalref06_all.f k (x0.extract ((wrap64 (x3 + 1)) : Int).toNat x0.size) 10).bind fun t509 => (some t509)) else (none)) else (none)) else (some false))) else (none)) else (tribunalref06_Decimal.l0 k x0 (wrap64 (x3 + 1)))) else (none)) else (some false)
def tribunalref06_Decimal.f (k : Nat) (a0 : ByteArray) : Option (Bool) := tribunalref06_Decimal.l0 k a0 0
theorem tribunalref06_Decimal.mono_l : ∀ k, (∀ y0 y1, LeO (tribunalref06_Decimal.l0 k y0 y1) (tribunalref06_Decimal.l0 (k + 1) y0 y1))
 | 0 => fun _ _ r h => by simp [tribunalref06_Decimal.l0] at h
 | k + 1 => by
  have ih0 := tribunalref06_Decimal.mono_l k
  ·intro y0 y1
   unfold tribunalref06_Decimal.l0
   repeat' first
   | (with_reducible exact ih0 _ _)
   | (with_reducible exact tribunalref06_Numeral.mono _ _)
   | (with_reducible exact tribunalref06_all.mono _ _ _)
   | (with_reducible exact LeO.refl _)
   | (with_reducible refine LeO.ite ?_ ?_)
   | (with_reducible refine LeO.bind ?_ (fun _ => ?_))
theorem tribunalref06_Decimal.mono : ∀ a0 k, LeO (tribunalref06_Decimal.f k a0) (tribunalref06_Decimal.f (k + 1) a0) := by
 intro a0 k
 have ih0 := tribunalref06_Decimal.mono_l k
 unfold tribunalref06_Decimal.f
 repeat' first
  | (with_reducible exact ih0 _ _)
set_option maxHeartbeats 8000000 in
set_option maxRecDepth 100000 in
theorem tribunalref06_Decimal.calls (k : Nat) (a0 : ByteArray) (r : Bool) (w : World) (h : tribunalref06_Decimal.f k a0 = some r) :
 Calls Tryz.prog 99 #[.string a0] w fun e w' => e = .returned (.bool r) ∧ Drawn0 w w' := by
 have H : (tribunalref06_Decimal.l0 k a0 0) = some r := h
 clear h
 have H' := Aside0.mk H
 clear H
 go_enter Tryz.func99, Tryz.ntmps99
 go_wp2
 go_loopg [3] k (fun kq v3 w' => ∃ (x3_1 : Int), v3 = .int .i64 x3_1 ∧ Aside0 (tribunalref06_Decimal.l0 kq a0 x3_1 = some r) ∧ Aside0 (kq ≤ k) ∧ Drawn0 w w')
 case atStart => exact ⟨(0), (by rfl), H', ⟨Nat.le_refl _⟩, by repeat (exact Drawn0.refl _)⟩
 case round =>
  clear H'
  obtain ⟨x3_1, rfl, HA, HK1, ⟨m1, rfl⟩⟩ := hrel
  cases gk with
  | zero => exact absurd HA.out (by simp [tribunalref06_Decimal.l0])
  | succ k1 =>
   have H := HA.out
   clear HA
   simp only [tribunalref06_Decimal.l0] at H
   by_cases c2 : x3_1 < (a0.size : Int)
   ·rw [if_pos c2] at H
    have c2b0 : decide (x3_1 < (a0.size : Int)) = true := decide_eq_true c2
    clear c2
    by_cases c3 : 0 ≤ x3_1
    ·rw [if_pos c3] at H
     have c3b0 : decide (0 ≤ x3_1) = true := decide_eq_true c3
     clear c3
     by_cases c5 : (bt a0 x3_1) = 46
     ·rw [if_pos c5] at H
      have c5b0 : ((bt a0 x3_1) == 46) = true := beq_iff_eq.mpr c5
      have c5b1 : ((bt a0 x3_1) != 46) = false := bne_eq_false_iff_eq.mpr c5
      clear c5
      have c6b0 := eq_true (of_decide_eq_true (by assumption) : 0 ≤ x3_1)
      by_cases c7 : x3_1 ≤ (a0.size : Int)
      ·rw [if_pos c7] at H
       have c7b0 := eq_true c7
       have c7b1 : decide (x3_1 ≤ (a0.size : Int)) = true := decide_eq_true c7
       clear c7
       replace H := Option.bind_eq_some_iff.mp H
       obtain ⟨t508, A80, H⟩ := H
       replace H : (if t508 = true then (if 0 ≤ (wrap64 (x3_1 + 1)) then (if (wrap64 (x3_1 + 1)) ≤ (a0.size : Int) then ((tribunalref06_all.f k1 (a0.extract ((wrap64 (x3_1 + 1)) : Int).toNat a0.size) 10).bind fun t509 => (some t509)) else (none)) else (none)) else (some false)) = some r := H
       have A8 := Aside0.mk A80
       clear A80
       by_cases c9 : t508 = true
       ·subst c9
        have H1 : (if 0 ≤ (wrap64 (x3_1 + 1)) then (if (wrap64 (x3_1 + 1)) ≤ (a0.size : Int) then ((tribunalref06_all.f k1 (a0.extract ((wrap64 (x3_1 + 1)) : Int).toNat a0.size) 10).bind fun t509 => (some t509)) else (none)) else (none)) = some r := by rw [if_pos rfl] at H; exact H
        clear H
        have H := H1
        clear H1
        obtain ⟨ji10, hji10⟩ : ∃ j_ : Int, (wrap64 (x3_1 + 1)) = j_ := ⟨_, rfl⟩
        replace H : (if 0 ≤ (ji10) then (if (ji10) ≤ (a0.size : Int) then ((tribunalref06_all.f k1 (a0.extract ((ji10) : Int).toNat a0.size) 10).bind fun t509 => (some t509)) else (none)) else (none)) = some r := by ((rw [hji10] at H; exact H))
        skip
        have hji10w : (IntKind.i64.wrap (x3_1 + 1)) = ji10 := (i64_w _).trans hji10
        by_cases c11 : 0 ≤ (ji10)
        ·rw [if_pos c11] at H
         have c11b0 := eq_true c11
         have c11b1 : decide (0 ≤ (ji10)) = true := decide_eq_true c11
         clear c11
         by_cases c12 : (ji10) ≤ (a0.size : Int)
         ·rw [if_pos c12] at H
          have c12b0 := eq_true c12
          have c12b1 : decide ((ji10) ≤ (a0.size : Int)) = true := decide_eq_true c12
          clear c12
          replace H := Option.bind_eq_some_iff.mp H
          obtain ⟨t509, A130, H⟩ := H
          replace H : (some t509) = some r := H
          have A13 := Aside0.mk A130
          clear A130
          obtain rfl := Option.some.inj H
          have p4 : 0 ≤ (x3_1 : Int) := of_decide_eq_true (by assumption)
          have q4 : x3_1 < (a0.size : Int) := of_decide_eq_true (by assumption)
          have hx4 := bt_at a0 x3_1
          replace p4 := eq_true p4
          replace q4 := eq_true q4
          go_wp2_with (first | ((with_reducible refine gate_callee (f := 98) rfl ?_); refine goesL_ (some 17) rfl rfl Tryz.func98 (by kernel_rfl) rfl #[.string (a0.extract 0 (x3_1 : Int).toNat)] rfl (by (try simp only [List.map_toArray, List.map_cons, List.map_nil]); rfl) ?_; (with_reducible refine (tribunalref06_Numeral.calls k1 (a0.extract 0 (x3_1 : Int).toNat) true _ A8.out).mono ?_); rintro e w' ⟨rfl, ⟨nd, rfl⟩⟩; refine ⟨_, rfl, ?_⟩) | (go_at_call 100; (with_reducible refine (tribunalref06_all.calls k1 (a0.extract ((ji10) : Int).toNat a0.size) 10 t509 _ A13.out).mono ?_); rintro e w' ⟨rfl, ⟨nd, rfl⟩⟩))
          go_ret
          exact ⟨by rfl, by repeat (first | exact Drawn0.refl _ | apply Drawn0.step)⟩
         ·rw [if_neg c12] at H
          exact absurd H (by simp)
        ·rw [if_neg c11] at H
         exact absurd H (by simp)
       ·replace c9 := Bool.eq_false_iff.mpr c9
        subst c9
        have H1 : (some false) = some r := by rw [if_neg (show ¬ (false = true) by decide)] at H; exact H
        clear H
        have H := H1
        clear H1
        obtain rfl := Option.some.inj H
        have p4 : 0 ≤ (x3_1 : Int) := of_decide_eq_true (by assumption)
        have q4 : x3_1 < (a0.size : Int) := of_decide_eq_true (by assumption)
        have hx4 := bt_at a0 x3_1
        replace p4 := eq_true p4
        replace q4 := eq_true q4
        go_wp2_with ((((with_reducible refine gate_callee (f := 98) rfl ?_); refine goesL_ (some 17) rfl rfl Tryz.func98 (by kernel_rfl) rfl #[.string (a0.extract 0 (x3_1 : Int).toNat)] rfl (by (try simp only [List.map_toArray, List.map_cons, List.map_nil]); rfl) ?_; (with_reducible refine (tribunalref06_Numeral.calls k1 (a0.extract 0 (x3_1 : Int).toNat) false _ A8.out).mono ?_); rintro e w' ⟨rfl, ⟨nd, rfl⟩⟩; refine ⟨_, rfl, ?_⟩)))
        go_ret
        exact ⟨by rfl, by repeat (first | exact Drawn0.refl _ | apply Drawn0.step)⟩
      ·rw [if_neg c7] at H
       exact absurd H (by simp)
     ·rw [if_neg c5] at H
      have c5b0 : ((bt a0 x3_1) == 46) = false := beq_eq_false_iff_ne.mpr c5
      have c5b1 : ((bt a0 x3_1) != 46) = true := bne_iff_ne.mpr c5
      have H' := Aside0.mk H
      clear H
      have p4 : 0 ≤ (x3_1 : Int) := of_decide_eq_true (by assumption)
      have q4 : x3_1 < (a0.size : Int) := of_decide_eq_true (by assumption)
      have hx4 := bt_at a0 x3_1
      replace p4 := eq_true p4
      replace q4 := eq_true q4
      go_wp2
      go_roundg k1
      case measure => have := HK1.out; omega
      case rel => exact ⟨(wrap64 (x3_1 + 1)), (by rfl), H', ⟨by have := HK1.out; omega⟩, by repeat (first | exact Drawn0.refl _ | apply Drawn0.step)⟩
    ·rw [if_neg c3] at H
     exact absurd H (by simp)
   ·rw [if_neg c2] at H
    have c2b0 : decide (x3_1 < (a0.size : Int)) = false := decide_eq_false c2
    clear c2
    obtain rfl := Option.some.inj H
    go_wp2
    go_ret
    exact ⟨by rfl, by repeat (first | exact Drawn0.refl _ | apply Drawn0.step)⟩

/-! ### tribunalref06_small: function 81 -/
def tribunalref06_small.l0 : Nat → ByteArray → ByteArray → Int → Option (ByteArray)
 | 0, _, _, _ => none
 | k + 1, x0, x3, x4 => if x4 < (x0.size : Int) then (if 0 ≤ x4 then (if (bt x0 x4) ≥ 65 then (if (bt x0 x4) ≤ 90 then ((some (([((bt x0 x4) + 32) % 256] : List Int) : List Int)).bind fun y510 => (if x3.size + (strOfNums y510).size ≤ 9223372036854775807 then (tribunalref06_small.l0 k x0 (x3 ++ (strOfNums y510)) (wrap64 (x4 + 1))) else (none))) else ((some (([bt x0 x4] : List Int) : List Int)).bind fun y513 => (if x3.size + (strOfNums y513).size ≤ 9223372036854775807 then (tribunalref06_small.l0 k x0 (x3 ++ (strOfNums y513)) (wrap64 (x4 + 1))) else (none)))) else ((some (([bt x0 x4] : List Int) : List Int)).bind fun y516 => (if x3.size + (strOfNums y516).size ≤ 9223372036854775807 then (tribunalref06_small.l0 k x0 (x3 ++ (strOfNums y516)) (wrap64 (x4 + 1))) else (none)))) else (none)) else (some x3)
def tribunalref06_small.f (k : Nat) (a0 : ByteArray) : Option (ByteArray) := tribunalref06_small.l0 k a0 (⟨#[]⟩ : ByteArray) 0
theorem tribunalref06_small.mono_l : ∀ k, (∀ y0 y1 y2, LeO (tribunalref06_small.l0 k y0 y1 y2) (tribunalref06_small.l0 (k + 1) y0 y1 y2))
 | 0 => fun _ _ _ r h => by simp [tribunalref06_small.l0] at h
 | k + 1 => by
  have ih0 := tribunalref06_small.mono_l k
  ·intro y0 y1 y2
   unfold tribunalref06_small.l0
   repeat' first
   | (with_reducible exact ih0 _ _ _)
   | (with_reducible exact LeO.refl _)
   | (with_reducible refine LeO.ite ?_ ?_)
   | (with_reducible refine LeO.bind ?_ (fun _ => ?_))
theorem tribunalref06_small.mono : ∀ a0 k, LeO (tribunalref06_small.f k a0) (tribunalref06_small.f (k + 1) a0) := by
 intro a0 k
 have ih0 := tribunalref06_small.mono_l k
 unfold tribunalref06_small.f
 repeat' first
  | (with_reducible exact ih0 _ _ _)
set_option maxHeartbeats 8000000 in
set_option maxRecDepth 100000 in
theorem tribunalref06_small.calls (k : Nat) (a0 : ByteArray) (r : ByteArray) (w : World) (h : tribunalref06_small.f k a0 = some r) :
 Calls Tryz.prog 101 #[.string a0] w fun e w' => e = .returned (.string r) ∧ Below w.heap.size w w' := by
 have HB := Aside0.mk (Below.refl w.heap.size w)
 have H : (tribunalref06_small.l0 k a0 (⟨#[]⟩ : ByteArray) 0) = some r := h
 clear h
 have H' := Aside0.mk H
 clear H
 go_enter Tryz.func101, Tryz.ntmps101
 go_wp2
 go_loopg [3, 4] k (fun kq v3 v4 w' => ∃ (x3_1 : ByteArray) (x4_1 : Int), v3 = .string x3_1 ∧ v4 = .int .i64 x4_1 ∧ Aside0 (tribunalref06_small.l0 kq a0 x3_1 x4_1 = some r) ∧ Aside0 (kq ≤ k) ∧ Aside0 (Below w.heap.size w w'))
 case atStart => exact ⟨((⟨#[]⟩ : ByteArray)), (0), (by rfl), (by rfl), H', ⟨Nat.le_refl _⟩, ⟨by exact HB.out⟩⟩
 case round =>
  clear H'
  obtain ⟨x3_1, x4_1, rfl, rfl, HA, HK1, HB⟩ := hrel
  cases gk with
  | zero => exact absurd HA.out (by simp [tribunalref06_small.l0])
  | succ k1 =>
   have H := HA.out
   clear HA
   simp only [tribunalref06_small.l0] at H
   by_cases c2 : x4_1 < (a0.size : Int)
   ·rw [if_pos c2] at H
    have c2b0 : decide (x4_1 < (a0.size : Int)) = true := decide_eq_true c2
    clear c2
    by_cases c3 : 0 ≤ x4_1
    ·rw [if_pos c3] at H
     have c3b0 : decide (0 ≤ x4_1) = true := decide_eq_true c3
     clear c3
     by_cases c5 : (bt a0 x4_1) ≥ 65
     ·rw [if_pos c5] at H
      have c5b0 : decide (65 ≤ (bt a0 x4_1)) = true := decide_eq_true c5
      clear c5
      by_cases c6 : (bt a0 x4_1) ≤ 90
      ·rw [if_pos c6] at H
       have c6b0 : decide ((bt a0 x4_1) ≤ 90) = true := decide_eq_true c6
       clear c6
       obtain ⟨y510, hy510⟩ : ∃ y_ : List Int, y_ = (([((bt a0 x4_1) + 32) % 256] : List Int)) := ⟨_, rfl⟩
       replace H : (if x3_1.size + (strOfNums y510).size ≤ 9223372036854775807 then (tribunalref06_small.l0 k1 a0 (x3_1 ++ (strOfNums y510)) (wrap64 (x4_1 + 1))) else (none)) = some r := by ((have H2_ := (Option.bind_some _ _).symm.trans H; rw [hy510]; with_reducible exact H2_))
       have Ny510 := Aside0.mk hy510
       clear hy510
       by_cases c7 : x3_1.size + (strOfNums y510).size ≤ 9223372036854775807
       ·rw [if_pos c7] at H
        have c7b0 := eq_true c7
        have c7b1 : decide (x3_1.size + (strOfNums y510).size ≤ 9223372036854775807) = true := decide_eq_true c7
        try have c7b2 : (9223372036854775807 < x3_1.size + (strOfNums y510).size) = False := eq_false (Nat.not_lt.2 c7)
        have H' := Aside0.mk H
        clear H
        have p4 : 0 ≤ (x4_1 : Int) := of_decide_eq_true (by assumption)
        have q4 : x4_1 < (a0.size : Int) := of_decide_eq_true (by assumption)
        have hx4 := bt_at a0 x4_1
        replace p4 := eq_true p4
        replace q4 := eq_true q4
        go_wp2_with ((((with_reducible refine gate_dst (N := 25) rfl ?_); refine Kd.R_lit (Kd.int .u8) _ 5 ?hg (N := 25) ?hd (xs := ([((bt a0 x4_1) + 32) % 256] : List Int)) (inner := [.int .u8 (((bt a0 x4_1) + 32) % 256)]) (ok := fun _ => True) (okp := fun _ => True) ?hr ?hp (fun _ hk => hk) trivial (Below.refl _ _) (Nat.le_refl _) (by simp) ?_; (case hd => rfl); (case hg => rfl); (case hr => ((go_simp; done))); (case hp => exact (Reps.one (show Kd.M (Kd.int .u8) _ _ _ (((bt a0 x4_1) + 32) % 256) [.int .u8 (((bt a0 x4_1) + 32) % 256)] from rfl) (Reps.none _ _))); intro v511 w8 ho9 hb hg_ hnew_; clear hg_ hnew_; (rw [← Ny510.out] at ho9); have n0_ := Aside0.mk (Kd.R_lower ho9 (below_size (by exact HB.out))); have n1_ := Aside0.mk (below_step (by exact HB.out) hb); clear HB; have HO512 := n0_; have HB := n1_; clear n0_ n1_; clear hb ho9; have hcv10 := own_string (P := Tryz.prog) Tryz.underlying76 Tryz.underlying5 Tryz.underlying9 (Kd.own_of_R HO512.out))))
        go_roundg k1
        case measure => have := HK1.out; omega
        case rel => exact ⟨(x3_1 ++ (strOfNums y510)), (wrap64 (x4_1 + 1)), (by rfl), (by rfl), H', ⟨by have := HK1.out; omega⟩, ⟨by exact HB.out⟩⟩
       ·rw [if_neg c7] at H
        exact absurd H (by simp)
      ·rw [if_neg c6] at H
       have c6b0 : decide ((bt a0 x4_1) ≤ 90) = false := decide_eq_false c6
       clear c6
       obtain ⟨y513, hy513⟩ : ∃ y_ : List Int, y_ = (([bt a0 x4_1] : List Int)) := ⟨_, rfl⟩
       replace H : (if x3_1.size + (strOfNums y513).size ≤ 9223372036854775807 then (tribunalref06_small.l0 k1 a0 (x3_1 ++ (strOfNums y513)) (wrap64 (x4_1 + 1))) else (none)) = some r := by ((have H2_ := (Option.bind_some _ _).symm.trans H; rw [hy513]; with_reducible exact H2_))
       have Ny513 := Aside0.mk hy513
       clear hy513
       by_cases c11 : x3_1.size + (strOfNums y513).size ≤ 9223372036854775807
       ·rw [if_pos c11] at H
        have c11b0 := eq_true c11
        have c11b1 : decide (x3_1.size + (strOfNums y513).size ≤ 9223372036854775807) = true := decide_eq_true c11
        try have c11b2 : (9223372036854775807 < x3_1.size + (strOfNums y513).size) = False := eq_false (Nat.not_lt.2 c11)
        have H' := Aside0.mk H
        clear H
        have p4 : 0 ≤ (x4_1 : Int) := of_decide_eq_true (by assumption)
        have q4 : x4_1 < (a0.size : Int) := of_decide_eq_true (by assumption)
        have hx4 := bt_at a0 x4_1
        replace p4 := eq_true p4
        replace q4 := eq_true q4
        go_wp2_with ((((with_reducible refine gate_dst (N := 25) rfl ?_); refine Kd.R_lit (Kd.int .u8) _ 5 ?hg (N := 25) ?hd (xs := ([bt a0 x4_1] : List Int)) (inner := [.int .u8 (bt a0 x4_1)]) (ok := fun _ => True) (okp := fun _ => True) ?hr ?hp (fun _ hk => hk) trivial (Below.refl _ _) (Nat.le_refl _) (by simp) ?_; (case hd => rfl); (case hg => rfl); (case hr => ((go_simp; done))); (case hp => exact (Reps.one (show Kd.M (Kd.int .u8) _ _ _ (bt a0 x4_1) [.int .u8 (bt a0 x4_1)] from rfl) (Reps.none _ _))); intro v514 w12 ho13 hb hg_ hnew_; clear hg_ hnew_; (rw [← Ny513.out] at ho13); have n0_ := Aside0.mk (Kd.R_lower ho13 (below_size (by exact HB.out))); have n1_ := Aside0.mk (below_step (by exact HB.out) hb); clear HB; have HO515 := n0_; have HB := n1_; clear n0_ n1_; clear hb ho13; have hcv14 := own_string (P := Tryz.prog) Tryz.underlying76 Tryz.underlying5 Tryz.underlying9 (Kd.own_of_R HO515.out))))
        go_roundg k1
        case measure => have := HK1.out; omega
        case rel => exact ⟨(x3_1 ++ (strOfNums y513)), (wrap64 (x4_1 + 1)), (by rfl), (by rfl), H', ⟨by have := HK1.out; omega⟩, ⟨by exact HB.out⟩⟩
       ·rw [if_neg c11] at H
        exact absurd H (by simp)
     ·rw [if_neg c5] at H
      have c5b0 : decide (65 ≤ (bt a0 x4_1)) = false := decide_eq_false c5
      clear c5
      obtain ⟨y516, hy516⟩ : ∃ y_ : List Int, y_ = (([bt a0 x4_1] : List Int)) := ⟨_, rfl⟩
      replace H : (if x3_1.size + (strOfNums y516).size ≤ 9223372036854775807 then (tribunalref06_small.l0 k1 a0 (x3_1 ++ (strOfNums y516)) (wrap64 (x4_1 + 1))) else (none)) = some r := by ((have H2_ := (Option.bind_some _ _).symm.trans H; rw [hy516]; with_reducible exact H2_))
      have Ny516 := Aside0.mk hy516
      clear hy516
      by_cases c15 : x3_1.size + (strOfNums y516).size ≤ 9223372036854775807
      ·rw [if_pos c15] at H
       have c15b0 := eq_true c15
       have c15b1 : decide (x3_1.size + (strOfNums y516).size ≤ 9223372036854775807) = true := decide_eq_true c15
       try have c15b2 : (9223372036854775807 < x3_1.size + (strOfNums y516).size) = False := eq_false (Nat.not_lt.2 c15)
       have H' := Aside0.mk H
       clear H
       have p4 : 0 ≤ (x4_1 : Int) := of_decide_eq_true (by assumption)
       have q4 : x4_1 < (a0.size : Int) := of_decide_eq_true (by assumption)
       have hx4 := bt_at a0 x4_1
       replace p4 := eq_true p4
       replace q4 := eq_true q4
       go_wp2_with ((((with_reducible refine gate_dst (N := 25) rfl ?_); refine Kd.R_lit (Kd.int .u8) _ 5 ?hg (N := 25) ?hd (xs := ([bt a0 x4_1] : List Int)) (inner := [.int .u8 (bt a0 x4_1)]) (ok := fun _ => True) (okp := fun _ => True) ?hr ?hp (fun _ hk => hk) trivial (Below.refl _ _) (Nat.le_refl _) (by simp) ?_; (case hd => rfl); (case hg => rfl); (case hr => ((go_simp; done))); (case hp => exact (Reps.one (show Kd.M (Kd.int .u8) _ _ _ (bt a0 x4_1) [.int .u8 (bt a0 x4_1)] from rfl) (Reps.none _ _))); intro v517 w16 ho17 hb hg_ hnew_; clear hg_ hnew_; (rw [← Ny516.out] at ho17); have n0_ := Aside0.mk (Kd.R_lower ho17 (below_size (by exact HB.out))); have n1_ := Aside0.mk (below_step (by exact HB.out) hb); clear HB; have HO518 := n0_; have HB := n1_; clear n0_ n1_; clear hb ho17; have hcv18 := own_string (P := Tryz.prog) Tryz.underlying76 Tryz.underlying5 Tryz.underlying9 (Kd.own_of_R HO518.out))))
       go_roundg k1
       case measure => have := HK1.out; omega
       case rel => exact ⟨(x3_1 ++ (strOfNums y516)), (wrap64 (x4_1 + 1)), (by rfl), (by rfl), H', ⟨by have := HK1.out; omega⟩, ⟨by exact HB.out⟩⟩
      ·rw [if_neg c15] at H
       exact absurd H (by simp)
    ·rw [if_neg c3] at H
     exact absurd H (by simp)
   ·rw [if_neg c2] at H
    have c2b0 : decide (x4_1 < (a0.size : Int)) = false := decide_eq_false c2
    clear c2
    obtain rfl := Option.some.inj H
    go_wp2
    go_ret
    exact ⟨by rfl, by exact HB.out⟩

/-! ### tribunalref06_Bytes: function 82 -/
def tribunalref06_Bytes.l0 : Nat → ByteArray → Int → Option (Bool)
 | 0, _, _ => none
 | k + 1, x0, x3 => if x3 < (x0.size : Int) then (if 0 ≤ x3 then ((tribunalref04_SimpleByte.f k (bt x0 x3)).bind fun t519 => (if t519 = true then (tribunalref06_Bytes.l0 k x0 (wrap64 (x3 + 1))) else (some false))) else (none)) else (some (decide ((x0.size : Int) > 0)))
def tribunalref06_Bytes.f (k : Nat) (a0 : ByteArray) : Option (Bool) := tribunalref06_Bytes.l0 k a0 0
theorem tribunalref06_Bytes.mono_l : ∀ k, (∀ y0 y1, LeO (tribunalref06_Bytes.l0 k y0 y1) (tribunalref06_Bytes.l0 (k + 1) y0 y1))
 | 0 => fun _ _ r h => by simp [tribunalref06_Bytes.l0] at h
 | k + 1 => by
  have ih0 := tribunalref06_Bytes.mono_l k
  ·intro y0 y1
   unfold tribunalref06_Bytes.l0
   repeat' first
   | (with_reducible exact ih0 _ _)
   | (with_reducible exact tribunalref04_SimpleByte.mono _ _)
   | (with_reducible exact LeO.refl _)
   | (with_reducible refine LeO.ite ?_ ?_)
   | (with_reducible refine LeO.bind ?_ (fun _ => ?_))
theorem tribunalref06_Bytes.mono : ∀ a0 k, LeO (tribunalref06_Bytes.f k a0) (tribunalref06_Bytes.f (k + 1) a0) := by
 intro a0 k
 have ih0 := tribunalref06_Bytes.mono_l k
 unfold tribunalref06_Bytes.f
 repeat' first
  | (with_reducible exact ih0 _ _)
set_option maxHeartbeats 8000000 in
set_option maxRecDepth 100000 in
theorem tribunalref06_Bytes.calls (k : Nat) (a0 : ByteArray) (r : Bool) (w : World) (h : tribunalref06_Bytes.f k a0 = some r) :
 Calls Tryz.prog 102 #[.string a0] w fun e w' => e = .returned (.bool r) ∧ Drawn0 w w' := by
 have H : (tribunalref06_Bytes.l0 k a0 0) = some r := h
 clear h
 have H' := Aside0.mk H
 clear H
 go_enter Tryz.func102, Tryz.ntmps102
 go_wp2
 go_loopg [3] k (fun kq v3 w' => ∃ (x3_1 : Int), v3 = .int .i64 x3_1 ∧ Aside0 (tribunalref06_Bytes.l0 kq a0 x3_1 = some r) ∧ Aside0 (kq ≤ k) ∧ Drawn0 w w')
 case atStart => exact ⟨(0), (by rfl), H', ⟨Nat.le_refl _⟩, by repeat (exact Drawn0.refl _)⟩
 case round =>
  clear H'
  obtain ⟨x3_1, rfl, HA, HK1, ⟨m1, rfl⟩⟩ := hrel
  cases gk with
  | zero => exact absurd HA.out (by simp [tribunalref06_Bytes.l0])
  | succ k1 =>
   have H := HA.out
   clear HA
   simp only [tribunalref06_Bytes.l0] at H
   by_cases c2 : x3_1 < (a0.size : Int)
   ·rw [if_pos c2] at H
    have c2b0 : decide (x3_1 < (a0.size : Int)) = true := decide_eq_true c2
    clear c2
    by_cases c3 : 0 ≤ x3_1
    ·rw [if_pos c3] at H
     have c3b0 : decide (0 ≤ x3_1) = true := decide_eq_true c3
     clear c3
     replace H := Option.bind_eq_some_iff.mp H
     obtain ⟨t519, A50, H⟩ := H
     replace H : (if t519 = true then (tribunalref06_Bytes.l0 k1 a0 (wrap64 (x3_1 + 1))) else (some false)) = some r := H
     have A5 := Aside0.mk A50
     clear A50
     by_cases c6 : t519 = true
     ·subst c6
      have H1 : (tribunalref06_Bytes.l0 k1 a0 (wrap64 (x3_1 + 1))) = some r := by rw [if_pos rfl] at H; exact H
      clear H
      have H := H1
      clear H1
      have H' := Aside0.mk H
      clear H
      have p4 : 0 ≤ (x3_1 : Int) := of_decide_eq_true (by assumption)
      have q4 : x3_1 < (a0.size : Int) := of_decide_eq_true (by assumption)
      have hx4 := bt_at a0 x3_1
      replace p4 := eq_true p4
      replace q4 := eq_true q4
      go_wp2_with ((((with_reducible refine gate_callee (f := 58) rfl ?_); refine goesL_ (some 13) rfl rfl Tryz.func58 (by kernel_rfl) rfl #[.int .u8 (bt a0 x3_1)] rfl (by (try simp only [List.map_toArray, List.map_cons, List.map_nil]); rfl) ?_; (with_reducible refine (tribunalref04_SimpleByte.calls k1 (bt a0 x3_1) true _ A5.out).mono ?_); rintro e w' ⟨rfl, ⟨nd, rfl⟩⟩; refine ⟨_, rfl, ?_⟩)))
      go_roundg k1
      case measure => have := HK1.out; omega
      case rel => exact ⟨(wrap64 (x3_1 + 1)), (by rfl), H', ⟨by have := HK1.out; omega⟩, by repeat (first | exact Drawn0.refl _ | apply Drawn0.step)⟩
     ·replace c6 := Bool.eq_false_iff.mpr c6
      subst c6
      have H1 : (some false) = some r := by rw [if_neg (show ¬ (false = true) by decide)] at H; exact H
      clear H
      have H := H1
      clear H1
      obtain rfl := Option.some.inj H
      have p4 : 0 ≤ (x3_1 : Int) := of_decide_eq_true (by assumption)
      have q4 : x3_1 < (a0.size : Int) := of_decide_eq_true (by assumption)
      have hx4 := bt_at a0 x3_1
      replace p4 := eq_true p4
      replace q4 := eq_true q4
      go_wp2_with ((((with_reducible refine gate_callee (f := 58) rfl ?_); refine goesL_ (some 13) rfl rfl Tryz.func58 (by kernel_rfl) rfl #[.int .u8 (bt a0 x3_1)] rfl (by (try simp only [List.map_toArray, List.map_cons, List.map_nil]); rfl) ?_; (with_reducible refine (tribunalref04_SimpleByte.calls k1 (bt a0 x3_1) false _ A5.out).mono ?_); rintro e w' ⟨rfl, ⟨nd, rfl⟩⟩; refine ⟨_, rfl, ?_⟩)))
      go_ret
      exact ⟨by rfl, by repeat (first | exact Drawn0.refl _ | apply Drawn0.step)⟩
    ·rw [if_neg c3] at H
     exact absurd H (by simp)
   ·rw [if_neg c2] at H
    have c2b0 : decide (x3_1 < (a0.size : Int)) = false := decide_eq_false c2
    clear c2
    obtain rfl := Option.some.inj H
    go_wp2
    go_ret
    exact ⟨by rfl, by repeat (first | exact Drawn0.refl _ | apply Drawn0.step)⟩

end Go.Proofs.YthklnopfgoekeaaGreatDoor.X
