/- The reference's Write: it gives what the program's Write gives. -/
import Derived.Test.YthklnopfgoekeaaGreatDoorX0
import Derived.Test.YthklnopfgoekeaaGreatDoorX2
import Derived.Test.YthklnopfgoekeaaGreatDoorPTok
import Derived.Test.YthklnopfgoekeaaGreatDoorHRScan
import Derived.Deep.CutBlock
import Derived.Deep.DeepCutAuto
namespace Go.Proofs.YthklnopfgoekeaaGreatDoor.X
section
open Go.RowKit Go.Proofs.YthklnopfgoekeaaGreatDoorW.PrintWords Go.Proofs.YthklnopfgoekeaaGreatDoorW.PrintLast Go.Proofs.YthklnopfgoekeaaGreatDoorW.PrintMore
attribute [local go_sem] max2_int min2_int max_two min_two max_three min_three max_four min_four   -- for this text's walks alone
set_option linter.unusedVariables false
set_option linter.unusedSimpArgs false

/-! ### tribunalref06_String: function 62 -/
def tribunalref06_String.l0 : Nat → ByteArray → ByteArray → Int → Option (ByteArray × Int)
 | 0, _, _, _ => none
 | k + 1, x0, x4, x5 => if x5 < (x0.size : Int) then (if 0 ≤ x5 then ((tribunalref06_Inner.f (bt x0 x5)).bind fun t479 => (if t479 = true then (if (bt x0 x5) = 34 then (if x4.size + 1 ≤ 9223372036854775807 then (if x5 ≤ (wrap64 (x5 + 1)) then (if (wrap64 (x5 + 1)) ≤ (x0.size : Int) then (if (x4 ++ (⟨#[34]⟩ : ByteArray)).size + (x0.extract (x5 : Int).toNat ((wrap64 (x5 + 1)) : Int).toNat).size ≤ 9223372036854775807 then (tribunalref06_String.l0 k x0 ((x4 ++ (⟨#[34]⟩ : ByteArray)) ++ (x0.extract (x5 : Int).toNat ((wrap64 (x5 + 1)) : Int).toNat)) (wrap64 (x5 + 1))) else (none)) else (none)) else (none)) else (none)) else (if x5 ≤ (wrap64 (x5 + 1)) then (if (wrap64 (x5 + 1)) ≤ (x0.size : Int) then (if x4.size + (x0.extract (x5 : Int).toNat ((wrap64 (x5 + 1)) : Int).toNat).size ≤ 9223372036854775807 then (tribunalref06_String.l0 k x0 (x4 ++ (x0.extract (x5 : Int).toNat ((wrap64 (x5 + 1)) : Int).toNat)) (wrap64 (x5 + 1))) else (none)) else (none)) else (none))) else (some ((⟨#[]⟩ : ByteArray), 60)))) else (none)) else (if x4.size + 1 ≤ 9223372036854775807 then (some (x4 ++ (⟨#[34]⟩ : ByteArray), 0)) else (none))
def tribunalref06_String.f (k : Nat) (a0 : ByteArray) : Option (ByteArray × Int) := tribunalref06_String.l0 k a0 (⟨#[34]⟩ : ByteArray) 0
theorem tribunalref06_String.mono_l : ∀ k, (∀ y0 y1 y2, LeO (tribunalref06_String.l0 k y0 y1 y2) (tribunalref06_String.l0 (k + 1) y0 y1 y2))
 | 0 => fun _ _ _ r h => by simp [tribunalref06_String.l0] at h
 | k + 1 => by
  have ih0 := tribunalref06_String.mono_l k
  ·intro y0 y1 y2
   unfold tribunalref06_String.l0
   repeat' first
   | (with_reducible exact ih0 _ _ _)
   | (with_reducible exact LeO.refl _)
   | (with_reducible exact LeO.none _)
   | (with_reducible refine LeO.ite ?_ ?_)
   | (with_reducible refine LeO.bind ?_ (fun _ => ?_))
   | exact ih0 _ _ _
   | exact LeO.none _
   | refine LeO.ite ?_ ?_
   | refine LeO.bind ?_ (fun _ => ?_)
theorem tribunalref06_String.mono : ∀ a0 k, LeO (tribunalref06_String.f k a0) (tribunalref06_String.f (k + 1) a0) := by
 intro a0 k
 have ih0 := tribunalref06_String.mono_l k
 unfold tribunalref06_String.f
 repeat' first
  | (with_reducible exact ih0 _ _ _)
  | (with_reducible exact LeO.refl _)
  | (with_reducible exact LeO.none _)
  | (with_reducible refine LeO.ite ?_ ?_)
  | (with_reducible refine LeO.bind ?_ (fun _ => ?_))
  | exact ih0 _ _ _
  | exact LeO.none _
  | refine LeO.ite ?_ ?_
  | refine LeO.bind ?_ (fun _ => ?_)
set_option maxHeartbeats 8000000 in
set_option maxRecDepth 100000 in
theorem tribunalref06_String.calls (k : Nat) (a0 : ByteArray) (r1 : ByteArray) (r2 : Int) (w : World) (h : tribunalref06_String.f k a0 = some (r1, r2)) :
 Calls Tryz.prog 18 #[.string a0] w fun e w' => e = .returned (.tuple #[.string r1, .int .i64 r2]) ∧ Drawn0 w w' := by
 have H : (tribunalref06_String.l0 k a0 (⟨#[34]⟩ : ByteArray) 0) = some (r1, r2) := h
 clear h
 have H' := Aside0.mk H
 clear H
 go_enter Tryz.func18, Tryz.ntmps18
 go_wp2
 go_loopg [4, 5] k (fun kq v4 v5 w' => ∃ (x4_1 : ByteArray) (x5_1 : Int), v4 = .string x4_1 ∧ v5 = .int .i64 x5_1 ∧ Aside0 (tribunalref06_String.l0 kq a0 x4_1 x5_1 = some (r1, r2)) ∧ Aside0 (kq ≤ k) ∧ Drawn0 w w')
 case atStart => exact ⟨((⟨#[34]⟩ : ByteArray)), (0), (by first | rfl | (simp; done) | (simp [*]; done)), (by first | rfl | (simp; done) | (simp [*]; done)), H', ⟨Nat.le_refl _⟩, by repeat (first | exact Drawn0.refl _ | apply Drawn0.step)⟩
 case round =>
  clear H'
  obtain ⟨x4_1, x5_1, rfl, rfl, HA, HK1, ⟨m1, rfl⟩⟩ := hrel
  cases gk with
  | zero => exact absurd HA.out (by simp [tribunalref06_String.l0])
  | succ k1 =>
   have H := HA.out
   clear HA
   simp only [tribunalref06_String.l0] at H
   by_cases c2 : x5_1 < (a0.size : Int)
   ·rw [if_pos c2] at H
    have c2b0 : decide (x5_1 < (a0.size : Int)) = true := decide_eq_true c2
    clear c2
    by_cases c3 : 0 ≤ x5_1
    ·rw [if_pos c3] at H
     have c3b0 : decide (0 ≤ x5_1) = true := decide_eq_true c3
     clear c3
     replace H := Option.bind_eq_some_iff.mp H
     obtain ⟨t479, A50, H⟩ := H
     replace H : (if t479 = true then (if (bt a0 x5_1) = 34 then (if x4_1.size + 1 ≤ 9223372036854775807 then (if x5_1 ≤ (wrap64 (x5_1 + 1)) then (if (wrap64 (x5_1 + 1)) ≤ (a0.size : Int) then (if (x4_1 ++ (⟨#[34]⟩ : ByteArray)).size + (a0.extract (x5_1 : Int).toNat ((wrap64 (x5_1 + 1)) : Int).toNat).size ≤ 9223372036854775807 then (tribunalref06_String.l0 k1 a0 ((x4_1 ++ (⟨#[34]⟩ : ByteArray)) ++ (a0.extract (x5_1 : Int).toNat ((wrap64 (x5_1 + 1)) : Int).toNat)) (wrap64 (x5_1 + 1))) else (none)) else (none)) else (none)) else (none)) else (if x5_1 ≤ (wrap64 (x5_1 + 1)) then (if (wrap64 (x5_1 + 1)) ≤ (a0.size : Int) then (if x4_1.size + (a0.extract (x5_1 : Int).toNat ((wrap64 (x5_1 + 1)) : Int).toNat).size ≤ 9223372036854775807 then (tribunalref06_String.l0 k1 a0 (x4_1 ++ (a0.extract (x5_1 : Int).toNat ((wrap64 (x5_1 + 1)) : Int).toNat)) (wrap64 (x5_1 + 1))) else (none)) else (none)) else (none))) else (some ((⟨#[]⟩ : ByteArray), 60))) = some (r1, r2) := H
     have A5 := Aside0.mk A50
     clear A50
     by_cases c6 : t479 = true
     ·subst c6
      have H1 : (if (bt a0 x5_1) = 34 then (if x4_1.size + 1 ≤ 9223372036854775807 then (if x5_1 ≤ (wrap64 (x5_1 + 1)) then (if (wrap64 (x5_1 + 1)) ≤ (a0.size : Int) then (if (x4_1 ++ (⟨#[34]⟩ : ByteArray)).size + (a0.extract (x5_1 : Int).toNat ((wrap64 (x5_1 + 1)) : Int).toNat).size ≤ 9223372036854775807 then (tribunalref06_String.l0 k1 a0 ((x4_1 ++ (⟨#[34]⟩ : ByteArray)) ++ (a0.extract (x5_1 : Int).toNat ((wrap64 (x5_1 + 1)) : Int).toNat)) (wrap64 (x5_1 + 1))) else (none)) else (none)) else (none)) else (none)) else (if x5_1 ≤ (wrap64 (x5_1 + 1)) then (if (wrap64 (x5_1 + 1)) ≤ (a0.size : Int) then (if x4_1.size + (a0.extract (x5_1 : Int).toNat ((wrap64 (x5_1 + 1)) : Int).toNat).size ≤ 9223372036854775807 then (tribunalref06_String.l0 k1 a0 (x4_1 ++ (a0.extract (x5_1 : Int).toNat ((wrap64 (x5_1 + 1)) : Int).toNat)) (wrap64 (x5_1 + 1))) else (none)) else (none)) else (none))) = some (r1, r2) := by rw [if_pos rfl] at H; exact H
      clear H
      have H := H1
      clear H1
      by_cases c8 : (bt a0 x5_1) = 34
      ·rw [if_pos c8] at H
       have c8b0 : ((bt a0 x5_1) == 34) = true := beq_iff_eq.mpr c8
       have c8b1 : ((bt a0 x5_1) != 34) = false := bne_eq_false_iff_eq.mpr c8
       clear c8
       by_cases c9 : x4_1.size + 1 ≤ 9223372036854775807
       ·rw [if_pos c9] at H
        have c9b0 := eq_true c9
        have c9b1 : decide (x4_1.size + 1 ≤ 9223372036854775807) = true := decide_eq_true c9
        try have c9b2 : (9223372036854775807 < x4_1.size + 1) = False := eq_false (Nat.not_lt.2 c9)
        have c10b0 := eq_true (of_decide_eq_true (by first | (with_reducible assumption) | assumption) : 0 ≤ x5_1)
        by_cases c11 : x5_1 ≤ (wrap64 (x5_1 + 1))
        ·rw [if_pos c11] at H
         have c11b0 := eq_true c11
         have c11b1 : decide (x5_1 ≤ (wrap64 (x5_1 + 1))) = true := decide_eq_true c11
         by_cases c12 : (wrap64 (x5_1 + 1)) ≤ (a0.size : Int)
         ·rw [if_pos c12] at H
          have c12b0 := eq_true c12
          have c12b1 : decide ((wrap64 (x5_1 + 1)) ≤ (a0.size : Int)) = true := decide_eq_true c12
          by_cases c13 : (x4_1 ++ (⟨#[34]⟩ : ByteArray)).size + (a0.extract (x5_1 : Int).toNat ((wrap64 (x5_1 + 1)) : Int).toNat).size ≤ 9223372036854775807
          ·rw [if_pos c13] at H
           have c13b0 := eq_true c13
           have c13b1 : decide ((x4_1 ++ (⟨#[34]⟩ : ByteArray)).size + (a0.extract (x5_1 : Int).toNat ((wrap64 (x5_1 + 1)) : Int).toNat).size ≤ 9223372036854775807) = true := decide_eq_true c13
           try have c13b2 : (9223372036854775807 < (x4_1 ++ (⟨#[34]⟩ : ByteArray)).size + (a0.extract (x5_1 : Int).toNat ((wrap64 (x5_1 + 1)) : Int).toNat).size) = False := eq_false (Nat.not_lt.2 c13)
           have H' := Aside0.mk H
           clear H
           have p4 : 0 ≤ (x5_1 : Int) := of_decide_eq_true (by first | (with_reducible assumption) | assumption)
           have q4 : x5_1 < (a0.size : Int) := of_decide_eq_true (by first | (with_reducible assumption) | assumption)
           have hx4 := bt_at a0 x5_1
           replace p4 := eq_true p4
           replace q4 := eq_true q4
           go_wp2_with (first | ((with_reducible refine gate_callee (f := 38) rfl ?_); refine goesL_ (some 15) rfl rfl Tryz.func38 (by kernel_rfl) rfl #[.int .u8 (bt a0 x5_1)] rfl (by (try simp only [List.map_toArray, List.map_cons, List.map_nil]); first | done | rfl | (simp only [List.length_drop, List.length_take]; rfl)) ?_; (with_reducible refine (tribunalref06_Inner.calls (bt a0 x5_1) true _ A5.out).mono ?_); rintro e w' ⟨rfl, ⟨nd, rfl⟩⟩; refine ⟨_, rfl, ?_⟩; have p7 : 0 ≤ (x5_1 : Int) := of_decide_eq_true (by first | (with_reducible assumption) | assumption); have q7 : x5_1 < (a0.size : Int) := of_decide_eq_true (by first | (with_reducible assumption) | assumption); have hx7 := bt_at a0 x5_1; replace p7 := eq_true p7; replace q7 := eq_true q7))
           go_roundg k1
           case measure => have := HK1.out; omega
           case rel => exact ⟨((x4_1 ++ (⟨#[34]⟩ : ByteArray)) ++ (a0.extract (x5_1 : Int).toNat ((wrap64 (x5_1 + 1)) : Int).toNat)), (wrap64 (x5_1 + 1)), (by first | rfl | (simp; done) | (simp [*]; done)), (by first | rfl | (simp; done) | (simp [*]; done)), H', ⟨by have := HK1.out; omega⟩, by repeat (first | exact Drawn0.refl _ | apply Drawn0.step)⟩
          ·rw [if_neg c13] at H
           exact absurd H (by simp)
         ·rw [if_neg c12] at H
          exact absurd H (by simp)
        ·rw [if_neg c11] at H
         exact absurd H (by simp)
       ·rw [if_neg c9] at H
        exact absurd H (by simp)
      ·rw [if_neg c8] at H
       have c8b0 : ((bt a0 x5_1) == 34) = false := beq_eq_false_iff_ne.mpr c8
       have c8b1 : ((bt a0 x5_1) != 34) = true := bne_iff_ne.mpr c8
       have c14b0 := eq_true (of_decide_eq_true (by first | (with_reducible assumption) | assumption) : 0 ≤ x5_1)
       by_cases c15 : x5_1 ≤ (wrap64 (x5_1 + 1))
       ·rw [if_pos c15] at H
        have c15b0 := eq_true c15
        have c15b1 : decide (x5_1 ≤ (wrap64 (x5_1 + 1))) = true := decide_eq_true c15
        by_cases c16 : (wrap64 (x5_1 + 1)) ≤ (a0.size : Int)
        ·rw [if_pos c16] at H
         have c16b0 := eq_true c16
         have c16b1 : decide ((wrap64 (x5_1 + 1)) ≤ (a0.size : Int)) = true := decide_eq_true c16
         by_cases c17 : x4_1.size + (a0.extract (x5_1 : Int).toNat ((wrap64 (x5_1 + 1)) : Int).toNat).size ≤ 9223372036854775807
         ·rw [if_pos c17] at H
          have c17b0 := eq_true c17
          have c17b1 : decide (x4_1.size + (a0.extract (x5_1 : Int).toNat ((wrap64 (x5_1 + 1)) : Int).toNat).size ≤ 9223372036854775807) = true := decide_eq_true c17
          try have c17b2 : (9223372036854775807 < x4_1.size + (a0.extract (x5_1 : Int).toNat ((wrap64 (x5_1 + 1)) : Int).toNat).size) = False := eq_false (Nat.not_lt.2 c17)
          have H' := Aside0.mk H
          clear H
          have p4 : 0 ≤ (x5_1 : Int) := of_decide_eq_true (by first | (with_reducible assumption) | assumption)
          have q4 : x5_1 < (a0.size : Int) := of_decide_eq_true (by first | (with_reducible assumption) | assumption)
          have hx4 := bt_at a0 x5_1
          replace p4 := eq_true p4
          replace q4 := eq_true q4
          go_wp2_with (first | ((with_reducible refine gate_callee (f := 38) rfl ?_); refine goesL_ (some 15) rfl rfl Tryz.func38 (by kernel_rfl) rfl #[.int .u8 (bt a0 x5_1)] rfl (by (try simp only [List.map_toArray, List.map_cons, List.map_nil]); first | done | rfl | (simp only [List.length_drop, List.length_take]; rfl)) ?_; (with_reducible refine (tribunalref06_Inner.calls (bt a0 x5_1) true _ A5.out).mono ?_); rintro e w' ⟨rfl, ⟨nd, rfl⟩⟩; refine ⟨_, rfl, ?_⟩; have p7 : 0 ≤ (x5_1 : Int) := of_decide_eq_true (by first | (with_reducible assumption) | assumption); have q7 : x5_1 < (a0.size : Int) := of_decide_eq_true (by first | (with_reducible assumption) | assumption); have hx7 := bt_at a0 x5_1; replace p7 := eq_true p7; replace q7 := eq_true q7))
          go_roundg k1
          case measure => have := HK1.out; omega
          case rel => exact ⟨(x4_1 ++ (a0.extract (x5_1 : Int).toNat ((wrap64 (x5_1 + 1)) : Int).toNat)), (wrap64 (x5_1 + 1)), (by first | rfl | (simp; done) | (simp [*]; done)), (by first | rfl | (simp; done) | (simp [*]; done)), H', ⟨by have := HK1.out; omega⟩, by repeat (first | exact Drawn0.refl _ | apply Drawn0.step)⟩
         ·rw [if_neg c17] at H
          exact absurd H (by simp)
        ·rw [if_neg c16] at H
         exact absurd H (by simp)
       ·rw [if_neg c15] at H
        exact absurd H (by simp)
     ·replace c6 := Bool.eq_false_iff.mpr c6
      subst c6
      have H1 : (some ((⟨#[]⟩ : ByteArray), 60)) = some (r1, r2) := by rw [if_neg (show ¬ (false = true) by decide)] at H; exact H
      clear H
      have H := H1
      clear H1
      simp only [Option.some.injEq, Prod.mk.injEq] at H
      obtain ⟨rfl, rfl⟩ := H
      have p4 : 0 ≤ (x5_1 : Int) := of_decide_eq_true (by first | (with_reducible assumption) | assumption)
      have q4 : x5_1 < (a0.size : Int) := of_decide_eq_true (by first | (with_reducible assumption) | assumption)
      have hx4 := bt_at a0 x5_1
      replace p4 := eq_true p4
      replace q4 := eq_true q4
      go_wp2_with (first | ((with_reducible refine gate_callee (f := 38) rfl ?_); refine goesL_ (some 15) rfl rfl Tryz.func38 (by kernel_rfl) rfl #[.int .u8 (bt a0 x5_1)] rfl (by (try simp only [List.map_toArray, List.map_cons, List.map_nil]); first | done | rfl | (simp only [List.length_drop, List.length_take]; rfl)) ?_; (with_reducible refine (tribunalref06_Inner.calls (bt a0 x5_1) false _ A5.out).mono ?_); rintro e w' ⟨rfl, ⟨nd, rfl⟩⟩; refine ⟨_, rfl, ?_⟩))
      go_ret2
      exact ⟨by first | rfl | (simp; done) | (simp [*]; done), by repeat (first | exact Drawn0.refl _ | apply Drawn0.step)⟩
    ·rw [if_neg c3] at H
     exact absurd H (by simp)
   ·rw [if_neg c2] at H
    have c2b0 : decide (x5_1 < (a0.size : Int)) = false := decide_eq_false c2
    clear c2
    by_cases c18 : x4_1.size + 1 ≤ 9223372036854775807
    ·rw [if_pos c18] at H
     have c18b0 := eq_true c18
     have c18b1 : decide (x4_1.size + 1 ≤ 9223372036854775807) = true := decide_eq_true c18
     try have c18b2 : (9223372036854775807 < x4_1.size + 1) = False := eq_false (Nat.not_lt.2 c18)
     simp only [Option.some.injEq, Prod.mk.injEq] at H
     obtain ⟨rfl, rfl⟩ := H
     go_wp2
     go_ret2
     exact ⟨by first | rfl | (simp; done) | (simp [*]; done), by repeat (first | exact Drawn0.refl _ | apply Drawn0.step)⟩
    ·rw [if_neg c18] at H
     exact absurd H (by simp)
end
section
section
open Go.RowKit Go.Proofs.YthklnopfgoekeaaGreatDoorW.PrintWords Go.Proofs.YthklnopfgoekeaaGreatDoorW.PrintLast Go.Proofs.YthklnopfgoekeaaGreatDoorW.PrintMore
set_option linter.unusedVariables false
theorem inner_print : ∀ c : UInt8, tribunalref06_Inner.f (by8 c) = some (printB (by8 c)) := u8_all (by decide +kernel)
theorem dblL_take (l : List UInt8) (i : Nat) (h : i < l.length) : dblL (l.take (i + 1)) = dblL (l.take i) ++ (if l[i] = 34 then [34, 34] else [l[i]]) := by
  rw [List.take_add_one, List.getElem?_eq_getElem h, dblL_append]
  rw [Option.toList_some, dblL]
  split <;> rfl
theorem strOf_app1 (l : List UInt8) (b : ByteArray) : strOf l ++ b = strOf (l ++ b.data.toList) := by
  rw [← strOf_append, strOf_data]
theorem rstr_run (t : ByteArray) (ht : t.size ≤ 1099511627776) : ∀ (n i : Nat), i + n = t.size → (∀ j, j < i → printB (bt t (((0 : Nat) : Int) + (j : Nat))) = true) → tribunalref06_String.l0 (n + 1) t (strOf (34 :: dblTo t i)) i = some (strR t)
  | 0, i, hi, hp => by
    have hz : (strOf (34 :: dblTo t i)).size ≤ 1 + 2 * i := by
      rw [strOf_size, List.length_cons]
      have := dblTo_length t i (by omega)
      omega
    rw [tribunalref06_String.l0, if_neg (by omega), if_pos (by omega), str_ok (fun j hj => hp j (by omega))]
    have e : dblTo t i = dblL t.data.toList := by
      unfold dblTo
      rw [List.take_of_length_le (by show t.size ≤ i; omega)]
    rw [strOf_app1, e]
    unfold quoted dbl
    rw [show (⟨#[34]⟩ : ByteArray) = strOf [34] from rfl, strOf_append, strOf_append, strOf_list]
    rfl
  | n + 1, i, hi, hp => by
    have hz : (strOf (34 :: dblTo t i)).size ≤ 1 + 2 * i := by
      rw [strOf_size, List.length_cons]
      have := dblTo_length t i (by omega)
      omega
    have hl : i < t.data.toList.length := by show i < t.size; omega
    obtain ⟨c, hc, hb⟩ := from_cons (s := t) (x := i) (by omega)
    have hg : t.data.toList[i] = c := by
      have h := List.drop_eq_getElem_cons hl
      unfold from_ at hc
      rw [h] at hc
      injection hc
    have e1 : wrap64 ((i : Int) + 1) = ((i + 1 : Nat) : Int) := by unfold wrap64; omega
    have hex : t.extract i (i + 1) = strOf [c] := by
      rw [extract_from, hc]; rfl
    rw [tribunalref06_String.l0, if_pos (by omega), if_pos (by omega), hb, inner_print, Option.bind_some, e1, Int.toNat_natCast, Int.toNat_natCast, hex]
    by_cases hpr : printB (by8 c) = true
    · have ih := rstr_run t ht n (i + 1) (by omega) (fun j hj => by
        by_cases hji : j < i
        · exact hp j hji
        · have e : (((0 : Nat) : Int) + (j : Nat)) = (i : Int) := by omega
          rw [e, hb]; exact hpr)
      have ed : dblTo t (i + 1) = dblTo t i ++ (if c = 34 then [34, 34] else [c]) := by
        unfold dblTo
        rw [dblL_take _ _ hl, hg]
      rw [if_pos hpr]
      by_cases h34 : c = 34
      · rw [if_pos h34] at ed
        rw [if_pos (by8_34.2 h34), if_pos (by omega), if_pos (by omega), if_pos (by omega)]
        have e2 : strOf (34 :: dblTo t i) ++ (⟨#[34]⟩ : ByteArray) ++ strOf [c] = strOf (34 :: dblTo t (i + 1)) := by
          rw [show (⟨#[34]⟩ : ByteArray) = strOf [34] from rfl, strOf_append, strOf_append, ed, h34]
          simp
        have hz2 : (strOf (34 :: dblTo t i) ++ (⟨#[34]⟩ : ByteArray)).size + (strOf [c]).size ≤ 9223372036854775807 := by
          rw [ByteArray.size_append, strOf_size [c]]
          show _ + 1 + 1 ≤ _
          omega
        rw [if_pos hz2, e2]
        exact ih
      · rw [if_neg h34] at ed
        rw [if_neg (fun h => h34 (by8_34.1 h)), if_pos (by omega), if_pos (by omega), if_pos (by rw [strOf_size [c]]; show _ + 1 ≤ _; omega), strOf_append]
        have e2 : strOf (34 :: dblTo t i ++ [c]) = strOf (34 :: dblTo t (i + 1)) := by rw [ed]; rfl
        rw [e2]
        exact ih
    · rw [if_neg hpr, str_bad (by omega) hp (by rw [hb]; simpa using hpr)]
theorem rstring_told (t : ByteArray) (ht : t.size ≤ 1099511627776) : tribunalref06_String.f (t.size + 1) t = some (strR t) := by
  unfold tribunalref06_String.f
  exact rstr_run t ht t.size 0 (by omega) (fun j hj => by omega)
/-- A kind from 1 to 9. -/
theorem lex_kind {w : List UInt8} {k : Int} {tx : List UInt8} {q : Bool} (h : Lex w k tx q) : 1 ≤ k ∧ k ≤ 9 := by
  cases h <;> decide
theorem writeR_cases (k : Int) (tx : ByteArray) (q : Bool) : (writeR k tx q).2 = 0 ∨ writeR k tx q = (⟨#[]⟩, 73) := by
  unfold writeR
  split
  · exact .inl rfl
  · exact .inr rfl
theorem write_odd {k : Int} (tx : ByteArray) (q : Bool) (h : k < 1 ∨ 9 < k) : writeR k tx q = (⟨#[]⟩, 73) := by
  rcases writeR_cases k tx q with h1 | h1
  · obtain ⟨r, hr⟩ : ∃ r, r = writeR k tx q := ⟨_, rfl⟩
    rw [← hr] at h1
    obtain ⟨r1, r2⟩ := r
    have h1 : r2 = 0 := h1
    subst h1
    obtain ⟨tl, e1, e2, e3, e4⟩ := write_back hr.symm
    have := lex_kind e2
    omega
  · exact h1
theorem write_alone {k : Int} {tx : ByteArray} {q : Bool} (h : aloneR k tx q (scanAll (textR k tx q)) = true) : writeR k tx q = (textR k tx q, 0) := by
  unfold aloneR at h
  split at h
  · rename_i t a b e hsc
    simp only [Bool.and_eq_true, beq_iff_eq] at h
    obtain ⟨he, h3, h4, h5⟩ := h
    subst he
    obtain ⟨tl, e1, e2, e3⟩ := alone_back hsc h3 (arr_ext h4) h5
    rw [e1, lex_write e2 e3, text_L e2]
  · cases h
theorem write_not {k : Int} {tx : ByteArray} {q : Bool} (h : aloneR k tx q (scanAll (textR k tx q)) = false) : writeR k tx q = (⟨#[]⟩, 73) := by
  unfold writeR
  rw [if_neg]
  rintro ⟨_, h2⟩
  unfold aloneB at h2
  unfold aloneR at h
  split at h2
  · rename_i t a b e hsc
    rw [hsc] at h
    simp only [Bool.and_eq_true, beq_iff_eq] at h2
    simp [h2.1, h2.2.1, h2.2.2.1, h2.2.2.2.1] at h
  · cases h2
theorem write_str {tx : ByteArray} (q : Bool) (h : (strR tx).2 ≠ 0) : writeR 7 tx q = (⟨#[]⟩, 73) := by
  refine write_not ?_
  have e : textR 7 tx q = strOf [] := by
    show (strR tx).1 = _
    unfold strR at h ⊢
    split
    · rename_i h1
      rw [if_pos h1] at h
      exact absurd rfl h
    · rfl
  rw [e]
  rfl
end
section
open Go.RowKit Go.Proofs.YthklnopfgoekeaaGreatDoorW.PrintWords Go.Proofs.YthklnopfgoekeaaGreatDoorW.PrintLast Go.Proofs.YthklnopfgoekeaaGreatDoorW.PrintMore
set_option linter.unusedVariables false
theorem kind_cases (k : Int) : k = 1 ∨ k = 2 ∨ k = 3 ∨ k = 4 ∨ k = 5 ∨ k = 6 ∨ k = 7 ∨ k = 8 ∨ k = 9 ∨ (k < 1 ∨ 9 < k) := by omega
/-- What the text that is scanned says of the token. -/
def toldBy (k : Int) (tx : ByteArray) (q : Bool) (tt : ByteArray) : Prop := (aloneR k tx q (scanAll tt) = true → writeR k tx q = (tt, 0)) ∧ (aloneR k tx q (scanAll tt) = false → writeR k tx q = (⟨#[]⟩, 73))
theorem toldBy_text {k : Int} {tx : ByteArray} {q : Bool} {tt : ByteArray} (h : textR k tx q = tt) : toldBy k tx q tt := by
  subst h
  exact ⟨write_alone, write_not⟩
theorem toldBy_odd {k : Int} (tx : ByteArray) (q : Bool) (h : k < 1 ∨ 9 < k) : toldBy k tx q ⟨#[]⟩ := by
  refine ⟨fun h1 => ?_, fun _ => write_odd tx q h⟩
  exact absurd h1 (by
    have e : scanAll ⟨#[]⟩ = ([], 0, 0, 0) := rfl
    rw [e]
    exact Bool.false_ne_true)
set_option maxHeartbeats 4000000 in
set_option maxRecDepth 100000 in
theorem rwrite_tells (k : Int) (tx : ByteArray) (q : Bool) (l c : Int) (ht : tx.size ≤ 1099511627776) (w : World) :
    Calls Tryz.prog 16 #[.agg #[.int .i64 k, .string tx, .bool q, .int .i64 l, .int .i64 c]] w fun e w' => e = .returned (.tuple #[.string (writeR k tx q).1, .int .i64 (writeR k tx q).2]) ∧ Below w.heap.size w w' := by
  have HW : Aside0 (∀ o : Obj, Below w.heap.size w (w.alloc o)) := ⟨fun o => (Below.refl _ _).alloc (Nat.le_refl _) _⟩
  have HN : Aside0 (∀ o : Obj, (w.alloc o).heap[w.heap.size]? = some o) := ⟨fun o => heap_alloc_new w o⟩
  go_enter Tryz.func16, Tryz.ntmps16
  go_upto_block 0 with (fail)
  go_cut [4] (fun v4 wc => ∃ tt : ByteArray, v4 = .string tt ∧ Aside0 (toldBy k tx q tt) ∧ Aside0 (Below w.heap.size w wc) ∧ Aside0 (wc.heap[w.heap.size]? = some (.cells #[.int .i64 k, .string tx, .bool q, .int .i64 l, .int .i64 c] 37 (0, 0))))
  case first =>
    rcases kind_cases k with rfl | rfl | rfl | rfl | rfl | rfl | rfl | rfl | rfl | hk
    · go_wp2
      go_meet
      case rel => exact ⟨_, rfl, ⟨toldBy_text rfl⟩, ⟨HW.out _⟩, ⟨HN.out _⟩⟩
    · go_wp2
      go_meet
      case rel => exact ⟨_, rfl, ⟨toldBy_text rfl⟩, ⟨HW.out _⟩, ⟨HN.out _⟩⟩
    · go_wp2
      go_meet
      case rel => exact ⟨_, rfl, ⟨toldBy_text rfl⟩, ⟨HW.out _⟩, ⟨HN.out _⟩⟩
    · go_wp2
      go_meet
      case rel => exact ⟨_, rfl, ⟨toldBy_text rfl⟩, ⟨HW.out _⟩, ⟨HN.out _⟩⟩
    · go_wp2
      go_meet
      case rel => exact ⟨_, rfl, ⟨toldBy_text rfl⟩, ⟨HW.out _⟩, ⟨HN.out _⟩⟩
    · go_wp2
      go_meet
      case rel => exact ⟨_, rfl, ⟨toldBy_text rfl⟩, ⟨HW.out _⟩, ⟨HN.out _⟩⟩
    · obtain ⟨sx, sf, hs⟩ : ∃ sx sf, strR tx = (sx, sf) := ⟨_, _, rfl⟩
      have HS := Aside0.mk hs
      clear hs
      go_wp2_with fail
      refine (tribunalref06_String.calls (tx.size + 1) tx sx sf _ (by rw [rstring_told tx ht, HS.out])).mono ?_
      rintro e w1 ⟨rfl, hd1⟩
      have HB1 : Aside0 (Below w.heap.size w w1) := ⟨below_then (HW.out _) (by simp) hd1.below⟩
      have HK1 : Aside0 (w1.heap[w.heap.size]? = some (.cells #[.int .i64 7, .string tx, .bool q, .int .i64 l, .int .i64 c] 37 (0, 0))) := ⟨blk_below (HN.out _) hd1.below⟩
      clear hd1
      cases hf : (sf != 0) with
      | true =>
        have HE : Aside0 (writeR 7 tx q = (⟨#[]⟩, 73)) := ⟨write_str q (by rw [HS.out]; simpa using hf)⟩
        go_wp2
        go_ret2
        rw [HE.out]
        exact ⟨rfl, HB1.out⟩
      | false =>
        go_wp2
        go_meet
        case rel => exact ⟨_, rfl, ⟨toldBy_text (by show (strR tx).1 = _; rw [HS.out])⟩, HB1, HK1⟩
    · cases q with
      | true =>
        go_wp2
        go_meet
        case rel => exact ⟨_, rfl, ⟨toldBy_text rfl⟩, ⟨HW.out _⟩, ⟨HN.out _⟩⟩
      | false =>
        go_wp2
        go_meet
        case rel => exact ⟨_, rfl, ⟨toldBy_text rfl⟩, ⟨HW.out _⟩, ⟨HN.out _⟩⟩
    · go_wp2
      go_meet
      case rel => exact ⟨_, rfl, ⟨toldBy_text rfl⟩, ⟨HW.out _⟩, ⟨HN.out _⟩⟩
    · have h1 : (k == 1) = false := by simp; omega
      have h2 : (k == 2) = false := by simp; omega
      have h3 : (k == 3) = false := by simp; omega
      have h4 : (k == 4) = false := by simp; omega
      have h5 : (k == 5) = false := by simp; omega
      have h6 : (k == 6) = false := by simp; omega
      have h7 : (k == 7) = false := by simp; omega
      have h8 : (k == 8) = false := by simp; omega
      have h9 : (k == 9) = false := by simp; omega
      go_wp2
      go_meet
      case rel => exact ⟨_, rfl, ⟨toldBy_odd tx q hk⟩, ⟨HW.out _⟩, ⟨HN.out _⟩⟩
  case rest =>
    obtain ⟨tt, rfl, HT, HB, HK⟩ := hcut
    obtain ⟨r1, r2, r3, r4, hsc⟩ : ∃ r1 r2 r3 r4, scanAll tt = (r1, r2, r3, r4) := ⟨_, _, _, _, rfl⟩
    have HSC := Aside0.mk hsc
    have HY : Aside0 (aloneR k tx q (r1, r2, r3, r4) = true → writeR k tx q = (tt, 0)) := ⟨fun h => HT.out.1 (by rw [HSC.out]; exact h)⟩
    have HN2 : Aside0 (aloneR k tx q (r1, r2, r3, r4) = false → writeR k tx q = (⟨#[]⟩, 73)) := ⟨fun h => HT.out.2 (by rw [HSC.out]; exact h)⟩
    clear hsc HT
    go_wp2_with fail
    refine (tribunalref06_Scan.calls tt r1 r2 r3 r4 _ (by unfold tribunalref06_Scan.f; rw [HSC.out])).mono ?_
    rintro e w2 ⟨v0, rfl, hR, hb2⟩
    have HB2 : Aside0 (Below w.heap.size w w2) := ⟨below_then HB.out HB.out.size hb2⟩
    have hk2 := blk_below HK.out hb2
    obtain ⟨d0, d1, d2, d3, d4⟩ := box37 hk2
    obtain ⟨A, cp, rfl, hcp, hC⟩ := Kd.R_reads hR
    have HA : Aside0 (∀ ad, A = some ad → ∃ g, ad = ⟨g, 0, none⟩) := ⟨fun ad h => by subst h; exact Kd.R_head hR⟩
    have HC3 := Aside0.mk hC
    clear hR hb2 hk2 hC d3 d4 HB HK HW HN
    go_wp2_with fail
    cases he : (r4 != 0) with
    | true =>
      have HE : Aside0 (writeR k tx q = (⟨#[]⟩, 73)) := ⟨HN2.out (by
        unfold aloneR; split
        · rename_i h1; injection h1 with _ h1; injection h1 with _ h1; injection h1 with _ h1; subst h1; simp at he ⊢; exact fun h => absurd h he
        · rfl)⟩
      go_quiet (fail)
      go_wp2
      go_ret2
      rw [HE.out]
      exact ⟨rfl, pw_below_drewN HB2.out _⟩
    | false =>
      by_cases hl : r1.length = 1
      · obtain ⟨t, rfl⟩ : ∃ t, r1 = [t] := by
          match r1, hl with
          | [t], _ => exact ⟨t, rfl⟩
        have hlb : ((([t] : List S37).length : Nat) : Int) = 1 := rfl
        obtain ⟨ad, rfl, e0, e1, e2, e3, e4⟩ := at_T37 HC3.out 0 (by omega) (by simp)
        obtain ⟨g, rfl⟩ := HA.out _ rfl
        have hrd : rd_T37 [t] 0 = t := rfl
        rw [hrd] at e0 e1 e2 e3 e4
        have e0 : w2.cell? ⟨g, 0, none⟩ = some (.int .i64 t.f0) := e0
        have e1 : w2.cell? ⟨g, 1, none⟩ = some (.string t.f1) := e1
        have e2 : w2.cell? ⟨g, 2, none⟩ = some (.bool t.f2) := e2
        clear e3 e4
        cases hq0 : (t.f0 != k) with
        | true =>
          have HE : Aside0 (writeR k tx q = (⟨#[]⟩, 73)) := ⟨HN2.out (by
            show (r4 == 0 && (t.f0 == k && _)) = false
            rw [show (t.f0 == k) = false by simpa using hq0]; simp)⟩
          go_quiet (fail)
          go_wp2
          go_ret2
          rw [HE.out]
          exact ⟨rfl, pw_below_drewN HB2.out _⟩
        | false =>
          cases hq1 : (t.f1.toList != tx.toList) with
          | true =>
            have hq1b : (t.f1.toList == tx.toList) = false := by simpa using hq1
            have HE : Aside0 (writeR k tx q = (⟨#[]⟩, 73)) := ⟨HN2.out (by
              show (r4 == 0 && (t.f0 == k && (t.f1.toList == tx.toList && _))) = false
              rw [show (t.f1.toList == tx.toList) = false by simpa using hq1]; simp)⟩
            go_quiet (fail)
            go_wp2
            go_ret2
            rw [HE.out]
            exact ⟨rfl, pw_below_drewN HB2.out _⟩
          | false =>
            have hq1b : (t.f1.toList == tx.toList) = true := by simpa using hq1
            cases hq2 : (t.f2 != q) with
            | true =>
              have hq2b : (t.f2 == q) = false := by simpa using hq2
              have HE : Aside0 (writeR k tx q = (⟨#[]⟩, 73)) := ⟨HN2.out (by
                show (r4 == 0 && (t.f0 == k && (t.f1.toList == tx.toList && t.f2 == q))) = false
                rw [show (t.f2 == q) = false by simpa using hq2]; simp)⟩
              go_quiet (fail)
              go_wp2
              go_ret2
              rw [HE.out]
              exact ⟨rfl, pw_below_drewN HB2.out _⟩
            | false =>
              have hq2b : (t.f2 == q) = true := by simpa using hq2
              have HE : Aside0 (writeR k tx q = (tt, 0)) := ⟨HY.out (by
                show (r4 == 0 && (t.f0 == k && (t.f1.toList == tx.toList && t.f2 == q))) = true
                rw [show (t.f2 == q) = true by simpa using hq2, show (t.f1.toList == tx.toList) = true by simpa using hq1, show (t.f0 == k) = true by simpa using hq0, show (r4 == 0) = true by simpa using he]; rfl)⟩
              go_quiet (fail)
              go_wp2
              go_ret2
              rw [HE.out]
              exact ⟨rfl, pw_below_drewN HB2.out _⟩
      · have hlb : ((r1.length : Int) != 1) = true := by simp; omega
        have HE : Aside0 (writeR k tx q = (⟨#[]⟩, 73)) := ⟨HN2.out (by
          unfold aloneR; split
          · rename_i h1; injection h1 with h1 _; subst h1; exact absurd rfl hl
          · rfl)⟩
        go_quiet (fail)
        go_wp2
        go_ret2
        rw [HE.out]
        exact ⟨rfl, pw_below_drewN HB2.out _⟩
set_option linter.unusedVariables false
def tribunalref06_Write.f (a0_0 : Int) (a0_1 : ByteArray) (a0_2 : Bool) (a0_3 : Int) (a0_4 : Int) : Option (ByteArray × Int) := if a0_1.size ≤ 1099511627776 then some (writeR a0_0 a0_1 a0_2) else none
theorem tribunalref06_Write.calls (a0_0 : Int) (a0_1 : ByteArray) (a0_2 : Bool) (a0_3 : Int) (a0_4 : Int) (r1 : ByteArray) (r2 : Int) (w : World) (h : tribunalref06_Write.f a0_0 a0_1 a0_2 a0_3 a0_4 = some (r1, r2)) :
    Calls Tryz.prog 16 #[.agg #[.int .i64 a0_0, .string a0_1, .bool a0_2, .int .i64 a0_3, .int .i64 a0_4]] w fun e w' => e = .returned (.tuple #[.string r1, .int .i64 r2]) ∧ Below w.heap.size w w' := by
  unfold tribunalref06_Write.f at h
  split at h
  · rename_i hs
    injection h with h
    have := rwrite_tells a0_0 a0_1 a0_2 a0_3 a0_4 hs w
    rw [h] at this
    exact this
  · cases h
end
end
end Go.Proofs.YthklnopfgoekeaaGreatDoor.X
