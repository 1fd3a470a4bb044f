-- written by this session's wip/pr.py, which runs the kit's printer
import Derived.Test.YthklnopfgoekeaaDoorX0
import Derived.Test.YthklnopfgoekeaaDoorX2
import Derived.Test.YthklnopfgoekeaaDoorX7
import Derived.Test.YthklnopfgoekeaaDoorHScan
import Derived.Test.YthklnopfgoekeaaDoorHWrite
namespace Go.Proofs.YthklnopfgoekeaaDoor.X
open Go.RowKit Go.Proofs.YthklnopfgoekeaaDoorW.PrintWords Go.Proofs.YthklnopfgoekeaaDoorW.PrintLast Go.Proofs.YthklnopfgoekeaaDoorW.PrintMore
attribute [local go_sem] max2_int min2_int max_two min_two max_three min_three max_four min_four   -- for this text's walks alone
set_option linter.unusedVariables false
set_option linter.unusedSimpArgs false

/-! ### tribunallaw06_LexisPlaces: function 7 -/
mutual
def tribunallaw06_LexisPlaces.l0 : Nat → ByteArray → List (S38) → Int → Int → Int → Int → Option (Bool)
  | 0, _, _, _, _, _, _ => none
  | k + 1, x0, x3, x7, x8, x9, x10 => if x7 < (x0.size : Int) then (if 0 ≤ x7 then (if x10 < (x3.length : Int) then (if 0 ≤ x10 then (if ((rd_T38 x3 x10).f3) = x8 then (tribunallaw06_LexisPlaces.j1 k x0 x3 x7 x8 x9 x10 (bt x0 x7) (((rd_T38 x3 x10).f4) == x9)) else (tribunallaw06_LexisPlaces.j1 k x0 x3 x7 x8 x9 x10 (bt x0 x7) false)) else (none)) else (tribunallaw06_LexisPlaces.j1 k x0 x3 x7 x8 x9 x10 (bt x0 x7) false)) else (none)) else (some (x10 == (x3.length : Int)))
def tribunallaw06_LexisPlaces.j1 : Nat → ByteArray → List (S38) → Int → Int → Int → Int → Int → Bool → Option (Bool)
  | 0, _, _, _, _, _, _, _, _ => none
  | k + 1, x0, x3, x7, x8, x9, x10, x11, x54 => if x54 = true then (if 0 ≤ x10 then (if x10 < (x3.length : Int) then ((lexis_Write.f ((rd_T38 x3 x10).f0) ((rd_T38 x3 x10).f1) ((rd_T38 x3 x10).f2) ((rd_T38 x3 x10).f3) ((rd_T38 x3 x10).f4)).bind fun bt175 => (if bt175.2 = 0 then (if (bt175.1.size : Int) = 0 then (tribunallaw06_LexisPlaces.j2 k x0 x3 x7 x8 x9 x10 bt175.1 true) else (if (bt175.1.size : Int) > (wrap64 ((x0.size : Int) - x7)) then (tribunallaw06_LexisPlaces.j2 k x0 x3 x7 x8 x9 x10 bt175.1 true) else (if ((rd_T38 x3 x10).f0) = 5 then (if 0 ≤ x7 then (if x7 ≤ (wrap64 (x7 + 2)) then (if (wrap64 (x7 + 2)) ≤ (x0.size : Int) then (tribunallaw06_LexisPlaces.j2 k x0 x3 x7 x8 x9 x10 bt175.1 ((x0.extract (x7 : Int).toNat ((wrap64 (x7 + 2)) : Int).toNat).toList != ([35, 120] : List UInt8))) else (none)) else (none)) else (none)) else (if 0 ≤ x7 then (if x7 ≤ (wrap64 (x7 + (bt175.1.size : Int))) then (if (wrap64 (x7 + (bt175.1.size : Int))) ≤ (x0.size : Int) then (if (x0.extract (x7 : Int).toNat ((wrap64 (x7 + (bt175.1.size : Int))) : Int).toNat).toList = bt175.1.toList then (tribunallaw06_LexisPlaces.j2 k x0 x3 x7 x8 x9 x10 bt175.1 false) else (tribunallaw06_LexisPlaces.j2 k x0 x3 x7 x8 x9 x10 bt175.1 true)) else (none)) else (none)) else (none))))) else (tribunallaw06_LexisPlaces.j2 k x0 x3 x7 x8 x9 x10 bt175.1 true))) else (none)) else (none)) else (if x11 = 59 then (tribunallaw06_LexisPlaces.l2 k x0 x3 x7 x8 x9 x10) else ((tribunalref06_Blank.f x11).bind fun t180 => (if t180 = true then (if x11 = 10 then (tribunallaw06_LexisPlaces.l0 k x0 x3 (wrap64 (x7 + 1)) (wrap64 (x8 + 1)) 1 x10) else (tribunallaw06_LexisPlaces.l0 k x0 x3 (wrap64 (x7 + 1)) x8 (wrap64 (x9 + 1)) x10)) else (some false))))
def tribunallaw06_LexisPlaces.j2 : Nat → ByteArray → List (S38) → Int → Int → Int → Int → ByteArray → Bool → Option (Bool)
  | 0, _, _, _, _, _, _, _, _ => none
  | k + 1, x0, x3, x7, x8, x9, x10, x12, x113 => if x113 = true then (some false) else (tribunallaw06_LexisPlaces.l1 k x0 x3 x7 x8 x9 x10 x12 0)
def tribunallaw06_LexisPlaces.l1 : Nat → ByteArray → List (S38) → Int → Int → Int → Int → ByteArray → Int → Option (Bool)
  | 0, _, _, _, _, _, _, _, _ => none
  | k + 1, x0, x3, x7, x8, x9, x10, x12, x14 => if x14 < (x12.size : Int) then (if 0 ≤ x14 then (if (bt x12 x14) = 10 then (tribunallaw06_LexisPlaces.l1 k x0 x3 x7 (wrap64 (x8 + 1)) 1 x10 x12 (wrap64 (x14 + 1))) else (tribunallaw06_LexisPlaces.l1 k x0 x3 x7 x8 (wrap64 (x9 + 1)) x10 x12 (wrap64 (x14 + 1)))) else (none)) else (tribunallaw06_LexisPlaces.l0 k x0 x3 (wrap64 (x7 + (x12.size : Int))) x8 x9 (wrap64 (x10 + 1)))
def tribunallaw06_LexisPlaces.l2 : Nat → ByteArray → List (S38) → Int → Int → Int → Int → Option (Bool)
  | 0, _, _, _, _, _, _ => none
  | k + 1, x0, x3, x7, x8, x9, x10 => if x7 < (x0.size : Int) then (if 0 ≤ x7 then (if (bt x0 x7) = 10 then (tribunallaw06_LexisPlaces.l0 k x0 x3 x7 x8 x9 x10) else (tribunallaw06_LexisPlaces.l2 k x0 x3 (wrap64 (x7 + 1)) x8 (wrap64 (x9 + 1)) x10)) else (none)) else (tribunallaw06_LexisPlaces.l0 k x0 x3 x7 x8 x9 x10)
end
def tribunallaw06_LexisPlaces.f (k : Nat) (a0 : ByteArray) : Option (Bool) := (tribunallaw06_awake.f).bind fun t165 => (if t165 = true then ((lexis_Scan.f a0).bind fun bt166 => (if bt166.2.2.2 = 0 then (tribunallaw06_LexisPlaces.l0 k a0 bt166.1 0 1 1 0) else (some true))) else (some false))
theorem tribunallaw06_LexisPlaces.mono_l : ∀ k, (∀ y0 y1 y2 y3 y4 y5, LeO (tribunallaw06_LexisPlaces.l0 k y0 y1 y2 y3 y4 y5) (tribunallaw06_LexisPlaces.l0 (k + 1) y0 y1 y2 y3 y4 y5)) ∧ (∀ y0 y1 y2 y3 y4 y5 y6 y7, LeO (tribunallaw06_LexisPlaces.j1 k y0 y1 y2 y3 y4 y5 y6 y7) (tribunallaw06_LexisPlaces.j1 (k + 1) y0 y1 y2 y3 y4 y5 y6 y7)) ∧ (∀ y0 y1 y2 y3 y4 y5 y6 y7, LeO (tribunallaw06_LexisPlaces.j2 k y0 y1 y2 y3 y4 y5 y6 y7) (tribunallaw06_LexisPlaces.j2 (k + 1) y0 y1 y2 y3 y4 y5 y6 y7)) ∧ (∀ y0 y1 y2 y3 y4 y5 y6 y7, LeO (tribunallaw06_LexisPlaces.l1 k y0 y1 y2 y3 y4 y5 y6 y7) (tribunallaw06_LexisPlaces.l1 (k + 1) y0 y1 y2 y3 y4 y5 y6 y7)) ∧ (∀ y0 y1 y2 y3 y4 y5, LeO (tribunallaw06_LexisPlaces.l2 k y0 y1 y2 y3 y4 y5) (tribunallaw06_LexisPlaces.l2 (k + 1) y0 y1 y2 y3 y4 y5))
  | 0 => ⟨fun _ _ _ _ _ _ r h => by simp [tribunallaw06_LexisPlaces.l0] at h, fun _ _ _ _ _ _ _ _ r h => by simp [tribunallaw06_LexisPlaces.j1] at h, fun _ _ _ _ _ _ _ _ r h => by simp [tribunallaw06_LexisPlaces.j2] at h, fun _ _ _ _ _ _ _ _ r h => by simp [tribunallaw06_LexisPlaces.l1] at h, fun _ _ _ _ _ _ r h => by simp [tribunallaw06_LexisPlaces.l2] at h⟩
  | k + 1 => by
    obtain ⟨ih0, ih1, ih2, ih3, ih4⟩ := tribunallaw06_LexisPlaces.mono_l k
    refine ⟨?_, ?_, ?_, ?_, ?_⟩
    · intro y0 y1 y2 y3 y4 y5
      unfold tribunallaw06_LexisPlaces.l0
      repeat' first
      | (with_reducible exact ih0 _ _ _ _ _ _)
      | (with_reducible exact ih1 _ _ _ _ _ _ _ _)
      | (with_reducible exact ih2 _ _ _ _ _ _ _ _)
      | (with_reducible exact ih3 _ _ _ _ _ _ _ _)
      | (with_reducible exact ih4 _ _ _ _ _ _)
      | (with_reducible exact LeO.refl _)
      | (with_reducible exact LeO.none _)
      | (with_reducible refine LeO.ite ?_ ?_)
      | (with_reducible refine LeO.bind ?_ (fun _ => ?_))
      | exact ih0 _ _ _ _ _ _
      | exact ih1 _ _ _ _ _ _ _ _
      | exact ih2 _ _ _ _ _ _ _ _
      | exact ih3 _ _ _ _ _ _ _ _
      | exact ih4 _ _ _ _ _ _
      | exact LeO.none _
      | refine LeO.ite ?_ ?_
      | refine LeO.bind ?_ (fun _ => ?_)
    · intro y0 y1 y2 y3 y4 y5 y6 y7
      unfold tribunallaw06_LexisPlaces.j1
      repeat' first
      | (with_reducible exact ih0 _ _ _ _ _ _)
      | (with_reducible exact ih1 _ _ _ _ _ _ _ _)
      | (with_reducible exact ih2 _ _ _ _ _ _ _ _)
      | (with_reducible exact ih3 _ _ _ _ _ _ _ _)
      | (with_reducible exact ih4 _ _ _ _ _ _)
      | (with_reducible exact LeO.refl _)
      | (with_reducible exact LeO.none _)
      | (with_reducible refine LeO.ite ?_ ?_)
      | (with_reducible refine LeO.bind ?_ (fun _ => ?_))
      | exact ih0 _ _ _ _ _ _
      | exact ih1 _ _ _ _ _ _ _ _
      | exact ih2 _ _ _ _ _ _ _ _
      | exact ih3 _ _ _ _ _ _ _ _
      | exact ih4 _ _ _ _ _ _
      | exact LeO.none _
      | refine LeO.ite ?_ ?_
      | refine LeO.bind ?_ (fun _ => ?_)
    · intro y0 y1 y2 y3 y4 y5 y6 y7
      unfold tribunallaw06_LexisPlaces.j2
      repeat' first
      | (with_reducible exact ih0 _ _ _ _ _ _)
      | (with_reducible exact ih1 _ _ _ _ _ _ _ _)
      | (with_reducible exact ih2 _ _ _ _ _ _ _ _)
      | (with_reducible exact ih3 _ _ _ _ _ _ _ _)
      | (with_reducible exact ih4 _ _ _ _ _ _)
      | (with_reducible exact LeO.refl _)
      | (with_reducible exact LeO.none _)
      | (with_reducible refine LeO.ite ?_ ?_)
      | (with_reducible refine LeO.bind ?_ (fun _ => ?_))
      | exact ih0 _ _ _ _ _ _
      | exact ih1 _ _ _ _ _ _ _ _
      | exact ih2 _ _ _ _ _ _ _ _
      | exact ih3 _ _ _ _ _ _ _ _
      | exact ih4 _ _ _ _ _ _
      | exact LeO.none _
      | refine LeO.ite ?_ ?_
      | refine LeO.bind ?_ (fun _ => ?_)
    · intro y0 y1 y2 y3 y4 y5 y6 y7
      unfold tribunallaw06_LexisPlaces.l1
      repeat' first
      | (with_reducible exact ih0 _ _ _ _ _ _)
      | (with_reducible exact ih1 _ _ _ _ _ _ _ _)
      | (with_reducible exact ih2 _ _ _ _ _ _ _ _)
      | (with_reducible exact ih3 _ _ _ _ _ _ _ _)
      | (with_reducible exact ih4 _ _ _ _ _ _)
      | (with_reducible exact LeO.refl _)
      | (with_reducible exact LeO.none _)
      | (with_reducible refine LeO.ite ?_ ?_)
      | (with_reducible refine LeO.bind ?_ (fun _ => ?_))
      | exact ih0 _ _ _ _ _ _
      | exact ih1 _ _ _ _ _ _ _ _
      | exact ih2 _ _ _ _ _ _ _ _
      | exact ih3 _ _ _ _ _ _ _ _
      | exact ih4 _ _ _ _ _ _
      | exact LeO.none _
      | refine LeO.ite ?_ ?_
      | refine LeO.bind ?_ (fun _ => ?_)
    · intro y0 y1 y2 y3 y4 y5
      unfold tribunallaw06_LexisPlaces.l2
      repeat' first
      | (with_reducible exact ih0 _ _ _ _ _ _)
      | (with_reducible exact ih1 _ _ _ _ _ _ _ _)
      | (with_reducible exact ih2 _ _ _ _ _ _ _ _)
      | (with_reducible exact ih3 _ _ _ _ _ _ _ _)
      | (with_reducible exact ih4 _ _ _ _ _ _)
      | (with_reducible exact LeO.refl _)
      | (with_reducible exact LeO.none _)
      | (with_reducible refine LeO.ite ?_ ?_)
      | (with_reducible refine LeO.bind ?_ (fun _ => ?_))
      | exact ih0 _ _ _ _ _ _
      | exact ih1 _ _ _ _ _ _ _ _
      | exact ih2 _ _ _ _ _ _ _ _
      | exact ih3 _ _ _ _ _ _ _ _
      | exact ih4 _ _ _ _ _ _
      | exact LeO.none _
      | refine LeO.ite ?_ ?_
      | refine LeO.bind ?_ (fun _ => ?_)
theorem tribunallaw06_LexisPlaces.mono : ∀ a0 k, LeO (tribunallaw06_LexisPlaces.f k a0) (tribunallaw06_LexisPlaces.f (k + 1) a0) := by
  intro a0 k
  obtain ⟨ih0, ih1, ih2, ih3, ih4⟩ := tribunallaw06_LexisPlaces.mono_l k
  unfold tribunallaw06_LexisPlaces.f
  repeat' first
      | (with_reducible exact ih0 _ _ _ _ _ _)
      | (with_reducible exact ih1 _ _ _ _ _ _ _ _)
      | (with_reducible exact ih2 _ _ _ _ _ _ _ _)
      | (with_reducible exact ih3 _ _ _ _ _ _ _ _)
      | (with_reducible exact ih4 _ _ _ _ _ _)
      | (with_reducible exact LeO.refl _)
      | (with_reducible exact LeO.none _)
      | (with_reducible refine LeO.ite ?_ ?_)
      | (with_reducible refine LeO.bind ?_ (fun _ => ?_))
      | exact ih0 _ _ _ _ _ _
      | exact ih1 _ _ _ _ _ _ _ _
      | exact ih2 _ _ _ _ _ _ _ _
      | exact ih3 _ _ _ _ _ _ _ _
      | exact ih4 _ _ _ _ _ _
      | exact LeO.none _
      | refine LeO.ite ?_ ?_
      | refine LeO.bind ?_ (fun _ => ?_)
set_option maxHeartbeats 8000000 in
set_option maxRecDepth 100000 in
theorem tribunallaw06_LexisPlaces.calls (k : Nat) (a0 : ByteArray) (r : Bool) (w : World) (h : tribunallaw06_LexisPlaces.f k a0 = some r) :
    Calls Tryd.prog 7 #[.string a0] w fun e w' => e = .returned (.bool r) ∧ Below w.heap.size w w' := by
  have hu38 := Tryd.underlying38
  have HB := Aside0.mk (Below.refl w.heap.size w)
  have H : ((tribunallaw06_awake.f).bind fun t165 => (if t165 = true then ((lexis_Scan.f a0).bind fun bt166 => (if bt166.2.2.2 = 0 then (tribunallaw06_LexisPlaces.l0 k a0 bt166.1 0 1 1 0) else (some true))) else (some false))) = some r := h
  clear h
  replace H := Option.bind_eq_some_iff.mp H
  obtain ⟨t165, A20, H⟩ := H
  replace H : (if t165 = true then ((lexis_Scan.f a0).bind fun bt166 => (if bt166.2.2.2 = 0 then (tribunallaw06_LexisPlaces.l0 k a0 bt166.1 0 1 1 0) else (some true))) else (some false)) = some r := H
  have A2 := Aside0.mk A20
  clear A20
  by_cases c3 : t165 = true
  · subst c3
    have H1 : ((lexis_Scan.f a0).bind fun bt166 => (if bt166.2.2.2 = 0 then (tribunallaw06_LexisPlaces.l0 k a0 bt166.1 0 1 1 0) else (some true))) = some r := by rw [if_pos rfl] at H; exact H
    clear H
    have H := H1
    clear H1
    replace H := Option.bind_eq_some_iff.mp H
    obtain ⟨⟨t166, t167, t168, t169⟩, A40, H⟩ := H
    replace H : (if t169 = 0 then (tribunallaw06_LexisPlaces.l0 k a0 t166 0 1 1 0) else (some true)) = some r := H
    have A4 := Aside0.mk A40
    clear A40
    by_cases c5 : t169 = 0
    · rw [if_pos c5] at H
      have c5b0 : (t169 == 0) = true := beq_iff_eq.mpr c5
      have c5b1 : (t169 != 0) = false := bne_eq_false_iff_eq.mpr c5
      clear c5
      have H' := Aside0.mk H
      clear H
      go_enter Tryd.func7, Tryd.ntmps7
      go_wp2_with (first | ((with_reducible refine gate_callee (f := 18) rfl ?_); refine goesL_ (some 15) rfl rfl Tryd.func18 (by kernel_rfl) rfl #[] rfl (by (try simp only [List.map_toArray, List.map_cons, List.map_nil]); first | done | rfl | (simp only [List.length_drop, List.length_take]; rfl)) ?_; (with_reducible refine (tribunallaw06_awake.calls  true _ A2.out).mono ?_); rintro e w6 ⟨rfl, hb⟩; refine ⟨_, rfl, ?_⟩; have n0_ := Aside0.mk (below_step (by repeat (first | (with_reducible first | exact HB.out | apply below_alloc | apply pw_below_drewN | apply below_drew1) | exact HB.out)) hb); clear HB; have HB := n0_; clear n0_; (try clear hb); (try clear hb2); (try clear hk); (try clear hi)) | ((with_reducible refine gate_callee (f := 15) rfl ?_); refine goesL_ (some 19) rfl rfl Tryd.func15 (by kernel_rfl) rfl #[.string a0] rfl (by (try simp only [List.map_toArray, List.map_cons, List.map_nil]); first | done | rfl | (simp only [List.length_drop, List.length_take]; rfl)) ?_; (with_reducible refine (lexis_Scan.calls a0 t166 t167 t168 t169 _ A4.out).mono ?_); rintro e w7 ⟨v170, rfl, ho0, hb⟩; refine ⟨_, rfl, ?_⟩; have n0_ := Aside0.mk (Kd.R_lower ho0 (below_size (by repeat (first | (with_reducible first | exact HB.out | apply below_alloc | apply pw_below_drewN | apply below_drew1) | exact HB.out)))); have n1_ := Aside0.mk (below_step (by repeat (first | (with_reducible first | exact HB.out | apply below_alloc | apply pw_below_drewN | apply below_drew1) | exact HB.out)) hb); clear HB; have HO171 := n0_; have HB := n1_; clear n0_ n1_; (try clear hb); (try clear hb2); (try clear hk); (try clear hi); (try clear ho0)))
      go_loopg [7, 8, 9, 10] k (fun kq v7 v8 v9 v10 w' => ∃ (x7_1 : Int) (x8_1 : Int) (x9_1 : Int) (x10_1 : Int), v7 = .int .i64 x7_1 ∧ v8 = .int .i64 x8_1 ∧ v9 = .int .i64 x9_1 ∧ v10 = .int .i64 x10_1 ∧ Aside0 (tribunallaw06_LexisPlaces.l0 kq a0 t166 x7_1 x8_1 x9_1 x10_1 = some r) ∧ Aside0 (kq ≤ k) ∧ Aside0 (Kd.R k38 38 w' w.heap.size (fun _ => True) v170 t166) ∧ Aside0 (Below w.heap.size w w'))
      case atStart => exact ⟨(0), (1), (1), (0), (by first | rfl | (simp; done) | (simp [*]; done)), (by first | rfl | (simp; done) | (simp [*]; done)), (by first | rfl | (simp; done) | (simp [*]; done)), (by first | rfl | (simp; done) | (simp [*]; done)), H', ⟨Nat.le_refl _⟩, ⟨by (with_reducible repeat (first | apply Kd.R_alloc | apply Kd.R_drewN | apply Kd.R_drew)); exact HO171.out⟩, ⟨by repeat (first | (with_reducible first | exact HB.out | apply below_alloc | apply pw_below_drewN | apply below_drew1) | exact HB.out)⟩⟩
      case round =>
        clear H'
        try clear c1
        try clear p2
        try clear c3
        try clear c5
        try clear c5b0
        try clear c5b1
        try clear c7
        obtain ⟨x7_1, x8_1, x9_1, x10_1, rfl, rfl, rfl, rfl, HA, HK1, HO_3, HB⟩ := hrel
        cases gk with
        | zero => exact absurd HA.out (by simp [tribunallaw06_LexisPlaces.l0])
        | succ k1 =>
          have H := HA.out
          clear HA
          simp only [tribunallaw06_LexisPlaces.l0] at H
          by_cases c8 : x7_1 < (a0.size : Int)
          · rw [if_pos c8] at H
            have c8b0 : decide (x7_1 < (a0.size : Int)) = true := decide_eq_true c8
            clear c8
            by_cases c9 : 0 ≤ x7_1
            · rw [if_pos c9] at H
              have c9b0 : decide (0 ≤ x7_1) = true := decide_eq_true c9
              clear c9
              have HC11 := Aside0.mk H
              clear H
              have p10 : 0 ≤ (x7_1 : Int) := of_decide_eq_true (by first | (with_reducible assumption) | assumption)
              have q10 : x7_1 < (a0.size : Int) := of_decide_eq_true (by first | (with_reducible assumption) | assumption)
              have hx10 := bt_at a0 x7_1
              replace p10 := eq_true p10
              replace q10 := eq_true q10
              go_upto_region 11 with (fail)
              go_cut [54] (fun v54 wc => ∃ (kq : Nat) (x54_10 : Bool), v54 = .bool x54_10 ∧ Aside0 (tribunallaw06_LexisPlaces.j1 kq a0 t166 x7_1 x8_1 x9_1 x10_1 (bt a0 x7_1) x54_10 = some r) ∧ Aside0 (kq ≤ k1) ∧ Aside0 (Kd.R k38 38 wc w.heap.size (fun _ => True) v170 t166) ∧ Aside0 (Below w.heap.size w wc))
              case first =>
                have H := HC11.out
                clear HC11
                by_cases c12 : x10_1 < (t166.length : Int)
                · rw [if_pos c12] at H
                  have c12b0 : decide (x10_1 < (t166.length : Int)) = true := decide_eq_true c12
                  clear c12
                  (first | rw [c12b0] | (simp only [i64_w, i32_w]; rw [c12b0]) | skip)
                  by_cases c13 : 0 ≤ x10_1
                  · rw [if_pos c13] at H
                    have c13b0 : decide (0 ≤ x10_1) = true := decide_eq_true c13
                    clear c13
                    by_cases c14 : ((rd_T38 t166 x10_1).f3) = x8_1
                    · rw [if_pos c14] at H
                      have c14b0 : (((rd_T38 t166 x10_1).f3) == x8_1) = true := beq_iff_eq.mpr c14
                      have c14b1 : (((rd_T38 t166 x10_1).f3) != x8_1) = false := bne_eq_false_iff_eq.mpr c14
                      clear c14
                      have H' := Aside0.mk H
                      clear H
                      obtain ⟨Ao15, co15, eo15⟩ := Kd.R_slice HO_3.out
                      subst eo15
                      have p172 : 0 ≤ (x10_1 : Int) := of_decide_eq_true (by first | (with_reducible assumption) | assumption)
                      have q172 : x10_1 < (t166.length : Int) := of_decide_eq_true (by first | (with_reducible assumption) | assumption)
                      obtain ⟨ad172, e172, hx172_0, hx172_1, hx172_2, hx172_3, hx172_4⟩ := at_T38 (Kd.R_reads' HO_3.out).2.2 x10_1 p172 q172
                      cases e172
                      replace p172 := eq_true p172
                      replace q172 := eq_true q172
                      have p173 : 0 ≤ (x10_1 : Int) := of_decide_eq_true (by first | (with_reducible assumption) | assumption)
                      have q173 : x10_1 < (t166.length : Int) := of_decide_eq_true (by first | (with_reducible assumption) | assumption)
                      obtain ⟨ad173, e173, hx173_0, hx173_1, hx173_2, hx173_3, hx173_4⟩ := at_T38 (Kd.R_reads' HO_3.out).2.2 x10_1 p173 q173
                      obtain rfl : ad172 = ad173 := (by injection e173)
                      replace p173 := eq_true p173
                      replace q173 := eq_true q173
                      go_wp2
                      go_meet
                      case rel => exact ⟨_, ((((rd_T38 t166 x10_1).f4) == x9_1)), (by first | rfl | (simp; done) | (simp [*]; done)), H', ⟨by have := HK1.out; first | omega | exact Nat.le_refl _⟩, ⟨by (with_reducible repeat (first | apply Kd.R_alloc | apply Kd.R_drewN | apply Kd.R_drew)); exact HO_3.out⟩, ⟨by repeat (first | (with_reducible first | exact HB.out | apply below_alloc | apply pw_below_drewN | apply below_drew1) | exact HB.out)⟩⟩
                    · rw [if_neg c14] at H
                      have c14b0 : (((rd_T38 t166 x10_1).f3) == x8_1) = false := beq_eq_false_iff_ne.mpr c14
                      have c14b1 : (((rd_T38 t166 x10_1).f3) != x8_1) = true := bne_iff_ne.mpr c14
                      have H' := Aside0.mk H
                      clear H
                      obtain ⟨Ao16, co16, eo16⟩ := Kd.R_slice HO_3.out
                      subst eo16
                      have p172 : 0 ≤ (x10_1 : Int) := of_decide_eq_true (by first | (with_reducible assumption) | assumption)
                      have q172 : x10_1 < (t166.length : Int) := of_decide_eq_true (by first | (with_reducible assumption) | assumption)
                      obtain ⟨ad172, e172, hx172_0, hx172_1, hx172_2, hx172_3, hx172_4⟩ := at_T38 (Kd.R_reads' HO_3.out).2.2 x10_1 p172 q172
                      cases e172
                      replace p172 := eq_true p172
                      replace q172 := eq_true q172
                      go_wp2
                      go_meet
                      case rel => exact ⟨_, (false), (by first | rfl | (simp; done) | (simp [*]; done)), H', ⟨by have := HK1.out; first | omega | exact Nat.le_refl _⟩, ⟨by (with_reducible repeat (first | apply Kd.R_alloc | apply Kd.R_drewN | apply Kd.R_drew)); exact HO_3.out⟩, ⟨by repeat (first | (with_reducible first | exact HB.out | apply below_alloc | apply pw_below_drewN | apply below_drew1) | exact HB.out)⟩⟩
                  · rw [if_neg c13] at H
                    exact absurd H (by simp)
                · rw [if_neg c12] at H
                  have c12b0 : decide (x10_1 < (t166.length : Int)) = false := decide_eq_false c12
                  clear c12
                  (first | rw [c12b0] | (simp only [i64_w, i32_w]; rw [c12b0]) | skip)
                  have H' := Aside0.mk H
                  clear H
                  obtain ⟨Ao17, co17, eo17⟩ := Kd.R_slice HO_3.out
                  subst eo17
                  go_wp2
                  go_meet
                  case rel => exact ⟨_, (false), (by first | rfl | (simp; done) | (simp [*]; done)), H', ⟨by have := HK1.out; first | omega | exact Nat.le_refl _⟩, ⟨by (with_reducible repeat (first | apply Kd.R_alloc | apply Kd.R_drewN | apply Kd.R_drew)); exact HO_3.out⟩, ⟨by repeat (first | (with_reducible first | exact HB.out | apply below_alloc | apply pw_below_drewN | apply below_drew1) | exact HB.out)⟩⟩
              case rest =>
                clear HC11
                try clear c1
                try clear p1
                try clear q1
                try clear hx1
                try clear p2
                try clear c3
                try clear c5
                try clear c5b0
                try clear c5b1
                try clear c7
                try clear c8
                try clear c8b0
                try clear c9
                try clear c9b0
                try clear p10
                try clear q10
                try clear hx10
                try clear c12
                try clear c12b0
                try clear c13
                try clear c13b0
                try clear c14
                try clear c14b0
                try clear c14b1
                try clear c15
                try clear p17
                try clear q17
                try clear hx17
                try clear hx172_0
                try clear hx172_1
                try clear hx172_2
                try clear hx172_3
                try clear hx172_4
                try clear hx173_0
                try clear hx173_1
                try clear hx173_2
                try clear hx173_3
                try clear hx173_4
                try clear p10
                try clear p172
                try clear p173
                try clear p2
                try clear q10
                try clear q172
                try clear q173
                obtain ⟨kq, x54_10, rfl, HA, HJ10, HO_3, HB⟩ := hcut
                cases kq with
                | zero => exact absurd HA.out (by simp [tribunallaw06_LexisPlaces.j1])
                | succ kj10 =>
                  have H := HA.out
                  clear HA
                  simp only [tribunallaw06_LexisPlaces.j1] at H
                  by_cases c18 : x54_10 = true
                  · subst c18
                    have H1 : (if 0 ≤ x10_1 then (if x10_1 < (t166.length : Int) then ((lexis_Write.f ((rd_T38 t166 x10_1).f0) ((rd_T38 t166 x10_1).f1) ((rd_T38 t166 x10_1).f2) ((rd_T38 t166 x10_1).f3) ((rd_T38 t166 x10_1).f4)).bind fun bt175 => (if bt175.2 = 0 then (if (bt175.1.size : Int) = 0 then (tribunallaw06_LexisPlaces.j2 kj10 a0 t166 x7_1 x8_1 x9_1 x10_1 bt175.1 true) else (if (bt175.1.size : Int) > (wrap64 ((a0.size : Int) - x7_1)) then (tribunallaw06_LexisPlaces.j2 kj10 a0 t166 x7_1 x8_1 x9_1 x10_1 bt175.1 true) else (if ((rd_T38 t166 x10_1).f0) = 5 then (if 0 ≤ x7_1 then (if x7_1 ≤ (wrap64 (x7_1 + 2)) then (if (wrap64 (x7_1 + 2)) ≤ (a0.size : Int) then (tribunallaw06_LexisPlaces.j2 kj10 a0 t166 x7_1 x8_1 x9_1 x10_1 bt175.1 ((a0.extract (x7_1 : Int).toNat ((wrap64 (x7_1 + 2)) : Int).toNat).toList != ([35, 120] : List UInt8))) else (none)) else (none)) else (none)) else (if 0 ≤ x7_1 then (if x7_1 ≤ (wrap64 (x7_1 + (bt175.1.size : Int))) then (if (wrap64 (x7_1 + (bt175.1.size : Int))) ≤ (a0.size : Int) then (if (a0.extract (x7_1 : Int).toNat ((wrap64 (x7_1 + (bt175.1.size : Int))) : Int).toNat).toList = bt175.1.toList then (tribunallaw06_LexisPlaces.j2 kj10 a0 t166 x7_1 x8_1 x9_1 x10_1 bt175.1 false) else (tribunallaw06_LexisPlaces.j2 kj10 a0 t166 x7_1 x8_1 x9_1 x10_1 bt175.1 true)) else (none)) else (none)) else (none))))) else (tribunallaw06_LexisPlaces.j2 kj10 a0 t166 x7_1 x8_1 x9_1 x10_1 bt175.1 true))) else (none)) else (none)) = some r := by rw [if_pos rfl] at H; exact H
                    clear H
                    have H := H1
                    clear H1
                    by_cases c19 : 0 ≤ x10_1
                    · rw [if_pos c19] at H
                      have c19b0 : decide (0 ≤ x10_1) = true := decide_eq_true c19
                      clear c19
                      by_cases c20 : x10_1 < (t166.length : Int)
                      · rw [if_pos c20] at H
                        have c20b0 : decide (x10_1 < (t166.length : Int)) = true := decide_eq_true c20
                        clear c20
                        replace H := Option.bind_eq_some_iff.mp H
                        obtain ⟨⟨t175, t176⟩, A210, H⟩ := H
                        replace H : (if t176 = 0 then (if (t175.size : Int) = 0 then (tribunallaw06_LexisPlaces.j2 kj10 a0 t166 x7_1 x8_1 x9_1 x10_1 t175 true) else (if (t175.size : Int) > (wrap64 ((a0.size : Int) - x7_1)) then (tribunallaw06_LexisPlaces.j2 kj10 a0 t166 x7_1 x8_1 x9_1 x10_1 t175 true) else (if ((rd_T38 t166 x10_1).f0) = 5 then (if 0 ≤ x7_1 then (if x7_1 ≤ (wrap64 (x7_1 + 2)) then (if (wrap64 (x7_1 + 2)) ≤ (a0.size : Int) then (tribunallaw06_LexisPlaces.j2 kj10 a0 t166 x7_1 x8_1 x9_1 x10_1 t175 ((a0.extract (x7_1 : Int).toNat ((wrap64 (x7_1 + 2)) : Int).toNat).toList != ([35, 120] : List UInt8))) else (none)) else (none)) else (none)) else (if 0 ≤ x7_1 then (if x7_1 ≤ (wrap64 (x7_1 + (t175.size : Int))) then (if (wrap64 (x7_1 + (t175.size : Int))) ≤ (a0.size : Int) then (if (a0.extract (x7_1 : Int).toNat ((wrap64 (x7_1 + (t175.size : Int))) : Int).toNat).toList = t175.toList then (tribunallaw06_LexisPlaces.j2 kj10 a0 t166 x7_1 x8_1 x9_1 x10_1 t175 false) else (tribunallaw06_LexisPlaces.j2 kj10 a0 t166 x7_1 x8_1 x9_1 x10_1 t175 true)) else (none)) else (none)) else (none))))) else (tribunallaw06_LexisPlaces.j2 kj10 a0 t166 x7_1 x8_1 x9_1 x10_1 t175 true)) = some r := H
                        have A21 := Aside0.mk A210
                        clear A210
                        have HC22 := Aside0.mk H
                        clear H
                        obtain ⟨Ao23, co23, eo23⟩ := Kd.R_slice HO_3.out
                        subst eo23
                        have p174 : 0 ≤ (x10_1 : Int) := of_decide_eq_true (by first | (with_reducible assumption) | assumption)
                        have q174 : x10_1 < (t166.length : Int) := of_decide_eq_true (by first | (with_reducible assumption) | assumption)
                        obtain ⟨ad174, e174, hx174_0, hx174_1, hx174_2, hx174_3, hx174_4⟩ := at_T38 (Kd.R_reads' HO_3.out).2.2 x10_1 p174 q174
                        cases e174
                        replace p174 := eq_true p174
                        replace q174 := eq_true q174
                        go_upto_region 13 with (first | ((with_reducible refine gate_callee (f := 21) rfl ?_); refine goesL_ (some 60) rfl rfl Tryd.func21 (by kernel_rfl) rfl #[.agg #[.int .i64 ((rd_T38 t166 x10_1).f0), .string ((rd_T38 t166 x10_1).f1), .bool ((rd_T38 t166 x10_1).f2), .int .i64 ((rd_T38 t166 x10_1).f3), .int .i64 ((rd_T38 t166 x10_1).f4)]] rfl (by (try simp only [List.map_toArray, List.map_cons, List.map_nil]); first | done | rfl | (simp only [List.length_drop, List.length_take]; rfl)) ?_; (with_reducible refine (lexis_Write.calls ((rd_T38 t166 x10_1).f0) ((rd_T38 t166 x10_1).f1) ((rd_T38 t166 x10_1).f2) ((rd_T38 t166 x10_1).f3) ((rd_T38 t166 x10_1).f4) t175 t176 _ A21.out).mono ?_); rintro e w24 ⟨rfl, hb⟩; refine ⟨_, rfl, ?_⟩; have n0_ := Aside0.mk (Kd.R_below (by (with_reducible repeat (first | apply Kd.R_alloc | apply Kd.R_drewN | apply Kd.R_drew)); exact HO_3.out) hb); have n1_ := Aside0.mk (below_step (by repeat (first | (with_reducible first | exact HB.out | apply below_alloc | apply pw_below_drewN | apply below_drew1) | exact HB.out)) hb); clear HO_3; clear HB; have HO_3 := n0_; have HB := n1_; clear n0_ n1_; (try clear hb); (try clear hb2); (try clear hk); (try clear hi)))
                        (try simp only [Act.put, List.setIfInBounds_toArray, List.set_cons_zero, List.set_cons_succ])
                        go_cut [113] (fun v113 wc => ∃ (kq : Nat) (x113_21 : Bool), v113 = .bool x113_21 ∧ Aside0 (tribunallaw06_LexisPlaces.j2 kq a0 t166 x7_1 x8_1 x9_1 x10_1 t175 x113_21 = some r) ∧ Aside0 (kq ≤ kj10) ∧ Aside0 (Kd.R k38 38 wc w.heap.size (fun _ => True) (.slice (some ad174) t166.length co23) t166) ∧ Aside0 (Below w.heap.size w wc))
                        case first =>
                          have H := HC22.out
                          clear HC22
                          by_cases c25 : t176 = 0
                          · rw [if_pos c25] at H
                            have c25b0 : (t176 == 0) = true := beq_iff_eq.mpr c25
                            have c25b1 : (t176 != 0) = false := bne_eq_false_iff_eq.mpr c25
                            clear c25
                            (first | rw [c25b0] | (simp only [i64_w, i32_w]; rw [c25b0]) | skip)
                            by_cases c26 : (t175.size : Int) = 0
                            · rw [if_pos c26] at H
                              have c26b0 : ((t175.size : Int) == 0) = true := beq_iff_eq.mpr c26
                              have c26b1 : ((t175.size : Int) != 0) = false := bne_eq_false_iff_eq.mpr c26
                              clear c26
                              have H' := Aside0.mk H
                              clear H
                              go_wp2
                              go_meet
                              case rel => exact ⟨_, (true), (by first | rfl | (simp; done) | (simp [*]; done)), H', ⟨by have := HK1.out; have := HJ10.out; first | omega | exact Nat.le_refl _⟩, ⟨by (with_reducible repeat (first | apply Kd.R_alloc | apply Kd.R_drewN | apply Kd.R_drew)); exact HO_3.out⟩, ⟨by repeat (first | (with_reducible first | exact HB.out | apply below_alloc | apply pw_below_drewN | apply below_drew1) | exact HB.out)⟩⟩
                            · rw [if_neg c26] at H
                              have c26b0 : ((t175.size : Int) == 0) = false := beq_eq_false_iff_ne.mpr c26
                              have c26b1 : ((t175.size : Int) != 0) = true := bne_iff_ne.mpr c26
                              by_cases c27 : (t175.size : Int) > (wrap64 ((a0.size : Int) - x7_1))
                              · rw [if_pos c27] at H
                                have c27b0 : decide ((wrap64 ((a0.size : Int) - x7_1)) < (t175.size : Int)) = true := decide_eq_true c27
                                clear c27
                                have H' := Aside0.mk H
                                clear H
                                go_wp2
                                go_meet
                                case rel => exact ⟨_, (true), (by first | rfl | (simp; done) | (simp [*]; done)), H', ⟨by have := HK1.out; have := HJ10.out; first | omega | exact Nat.le_refl _⟩, ⟨by (with_reducible repeat (first | apply Kd.R_alloc | apply Kd.R_drewN | apply Kd.R_drew)); exact HO_3.out⟩, ⟨by repeat (first | (with_reducible first | exact HB.out | apply below_alloc | apply pw_below_drewN | apply below_drew1) | exact HB.out)⟩⟩
                              · rw [if_neg c27] at H
                                have c27b0 : decide ((wrap64 ((a0.size : Int) - x7_1)) < (t175.size : Int)) = false := decide_eq_false c27
                                clear c27
                                by_cases c28 : ((rd_T38 t166 x10_1).f0) = 5
                                · rw [if_pos c28] at H
                                  have c28b0 : (((rd_T38 t166 x10_1).f0) == 5) = true := beq_iff_eq.mpr c28
                                  have c28b1 : (((rd_T38 t166 x10_1).f0) != 5) = false := bne_eq_false_iff_eq.mpr c28
                                  clear c28
                                  by_cases c29 : 0 ≤ x7_1
                                  · rw [if_pos c29] at H
                                    have c29b0 := eq_true c29
                                    have c29b1 : decide (0 ≤ x7_1) = true := decide_eq_true c29
                                    clear c29
                                    by_cases c30 : x7_1 ≤ (wrap64 (x7_1 + 2))
                                    · rw [if_pos c30] at H
                                      have c30b0 := eq_true c30
                                      have c30b1 : decide (x7_1 ≤ (wrap64 (x7_1 + 2))) = true := decide_eq_true c30
                                      by_cases c31 : (wrap64 (x7_1 + 2)) ≤ (a0.size : Int)
                                      · rw [if_pos c31] at H
                                        have c31b0 := eq_true c31
                                        have c31b1 : decide ((wrap64 (x7_1 + 2)) ≤ (a0.size : Int)) = true := decide_eq_true c31
                                        have H' := Aside0.mk H
                                        clear H
                                        have p177 : 0 ≤ (x10_1 : Int) := of_decide_eq_true (by first | (with_reducible assumption) | assumption)
                                        have q177 : x10_1 < (t166.length : Int) := of_decide_eq_true (by first | (with_reducible assumption) | assumption)
                                        obtain ⟨ad177, e177, hx177_0, hx177_1, hx177_2, hx177_3, hx177_4⟩ := at_T38 (Kd.R_reads' HO_3.out).2.2 x10_1 p177 q177
                                        obtain rfl : ad174 = ad177 := (by injection e177)
                                        replace p177 := eq_true p177
                                        replace q177 := eq_true q177
                                        have p178 : 0 ≤ (x10_1 : Int) := of_decide_eq_true (by first | (with_reducible assumption) | assumption)
                                        have q178 : x10_1 < (t166.length : Int) := of_decide_eq_true (by first | (with_reducible assumption) | assumption)
                                        obtain ⟨ad178, e178, hx178_0, hx178_1, hx178_2, hx178_3, hx178_4⟩ := at_T38 (Kd.R_reads' HO_3.out).2.2 x10_1 p178 q178
                                        obtain rfl : ad174 = ad178 := (by injection e178)
                                        replace p178 := eq_true p178
                                        replace q178 := eq_true q178
                                        go_wp2
                                        go_meet
                                        case rel => exact ⟨_, (((a0.extract (x7_1 : Int).toNat ((wrap64 (x7_1 + 2)) : Int).toNat).toList != ([35, 120] : List UInt8))), (by first | rfl | (simp; done) | (simp [*]; done)), H', ⟨by have := HK1.out; have := HJ10.out; first | omega | exact Nat.le_refl _⟩, ⟨by (with_reducible repeat (first | apply Kd.R_alloc | apply Kd.R_drewN | apply Kd.R_drew)); exact HO_3.out⟩, ⟨by repeat (first | (with_reducible first | exact HB.out | apply below_alloc | apply pw_below_drewN | apply below_drew1) | exact HB.out)⟩⟩
                                      · rw [if_neg c31] at H
                                        exact absurd H (by simp)
                                    · rw [if_neg c30] at H
                                      exact absurd H (by simp)
                                  · rw [if_neg c29] at H
                                    exact absurd H (by simp)
                                · rw [if_neg c28] at H
                                  have c28b0 : (((rd_T38 t166 x10_1).f0) == 5) = false := beq_eq_false_iff_ne.mpr c28
                                  have c28b1 : (((rd_T38 t166 x10_1).f0) != 5) = true := bne_iff_ne.mpr c28
                                  by_cases c32 : 0 ≤ x7_1
                                  · rw [if_pos c32] at H
                                    have c32b0 := eq_true c32
                                    have c32b1 : decide (0 ≤ x7_1) = true := decide_eq_true c32
                                    clear c32
                                    by_cases c33 : x7_1 ≤ (wrap64 (x7_1 + (t175.size : Int)))
                                    · rw [if_pos c33] at H
                                      have c33b0 := eq_true c33
                                      have c33b1 : decide (x7_1 ≤ (wrap64 (x7_1 + (t175.size : Int)))) = true := decide_eq_true c33
                                      by_cases c34 : (wrap64 (x7_1 + (t175.size : Int))) ≤ (a0.size : Int)
                                      · rw [if_pos c34] at H
                                        have c34b0 := eq_true c34
                                        have c34b1 : decide ((wrap64 (x7_1 + (t175.size : Int))) ≤ (a0.size : Int)) = true := decide_eq_true c34
                                        by_cases c35 : (a0.extract (x7_1 : Int).toNat ((wrap64 (x7_1 + (t175.size : Int))) : Int).toNat).toList = t175.toList
                                        · rw [if_pos c35] at H
                                          have c35b0 : ((a0.extract (x7_1 : Int).toNat ((wrap64 (x7_1 + (t175.size : Int))) : Int).toNat).toList == t175.toList) = true := beq_iff_eq.mpr c35
                                          have c35b1 : ((a0.extract (x7_1 : Int).toNat ((wrap64 (x7_1 + (t175.size : Int))) : Int).toNat).toList != t175.toList) = false := bne_eq_false_iff_eq.mpr c35
                                          clear c35
                                          have H' := Aside0.mk H
                                          clear H
                                          have p177 : 0 ≤ (x10_1 : Int) := of_decide_eq_true (by first | (with_reducible assumption) | assumption)
                                          have q177 : x10_1 < (t166.length : Int) := of_decide_eq_true (by first | (with_reducible assumption) | assumption)
                                          obtain ⟨ad177, e177, hx177_0, hx177_1, hx177_2, hx177_3, hx177_4⟩ := at_T38 (Kd.R_reads' HO_3.out).2.2 x10_1 p177 q177
                                          obtain rfl : ad174 = ad177 := (by injection e177)
                                          replace p177 := eq_true p177
                                          replace q177 := eq_true q177
                                          have p179 : 0 ≤ (x10_1 : Int) := of_decide_eq_true (by first | (with_reducible assumption) | assumption)
                                          have q179 : x10_1 < (t166.length : Int) := of_decide_eq_true (by first | (with_reducible assumption) | assumption)
                                          obtain ⟨ad179, e179, hx179_0, hx179_1, hx179_2, hx179_3, hx179_4⟩ := at_T38 (Kd.R_reads' HO_3.out).2.2 x10_1 p179 q179
                                          obtain rfl : ad174 = ad179 := (by injection e179)
                                          replace p179 := eq_true p179
                                          replace q179 := eq_true q179
                                          go_wp2
                                          go_meet
                                          case rel => exact ⟨_, (false), (by first | rfl | (simp; done) | (simp [*]; done)), H', ⟨by have := HK1.out; have := HJ10.out; first | omega | exact Nat.le_refl _⟩, ⟨by (with_reducible repeat (first | apply Kd.R_alloc | apply Kd.R_drewN | apply Kd.R_drew)); exact HO_3.out⟩, ⟨by repeat (first | (with_reducible first | exact HB.out | apply below_alloc | apply pw_below_drewN | apply below_drew1) | exact HB.out)⟩⟩
                                        · rw [if_neg c35] at H
                                          have c35b0 : ((a0.extract (x7_1 : Int).toNat ((wrap64 (x7_1 + (t175.size : Int))) : Int).toNat).toList == t175.toList) = false := beq_eq_false_iff_ne.mpr c35
                                          have c35b1 : ((a0.extract (x7_1 : Int).toNat ((wrap64 (x7_1 + (t175.size : Int))) : Int).toNat).toList != t175.toList) = true := bne_iff_ne.mpr c35
                                          have H' := Aside0.mk H
                                          clear H
                                          have p177 : 0 ≤ (x10_1 : Int) := of_decide_eq_true (by first | (with_reducible assumption) | assumption)
                                          have q177 : x10_1 < (t166.length : Int) := of_decide_eq_true (by first | (with_reducible assumption) | assumption)
                                          obtain ⟨ad177, e177, hx177_0, hx177_1, hx177_2, hx177_3, hx177_4⟩ := at_T38 (Kd.R_reads' HO_3.out).2.2 x10_1 p177 q177
                                          obtain rfl : ad174 = ad177 := (by injection e177)
                                          replace p177 := eq_true p177
                                          replace q177 := eq_true q177
                                          go_wp2
                                          go_meet
                                          case rel => exact ⟨_, (true), (by first | rfl | (simp; done) | (simp [*]; done)), H', ⟨by have := HK1.out; have := HJ10.out; first | omega | exact Nat.le_refl _⟩, ⟨by (with_reducible repeat (first | apply Kd.R_alloc | apply Kd.R_drewN | apply Kd.R_drew)); exact HO_3.out⟩, ⟨by repeat (first | (with_reducible first | exact HB.out | apply below_alloc | apply pw_below_drewN | apply below_drew1) | exact HB.out)⟩⟩
                                      · rw [if_neg c34] at H
                                        exact absurd H (by simp)
                                    · rw [if_neg c33] at H
                                      exact absurd H (by simp)
                                  · rw [if_neg c32] at H
                                    exact absurd H (by simp)
                          · rw [if_neg c25] at H
                            have c25b0 : (t176 == 0) = false := beq_eq_false_iff_ne.mpr c25
                            have c25b1 : (t176 != 0) = true := bne_iff_ne.mpr c25
                            (first | rw [c25b0] | (simp only [i64_w, i32_w]; rw [c25b0]) | skip)
                            have H' := Aside0.mk H
                            clear H
                            go_wp2
                            go_meet
                            case rel => exact ⟨_, (true), (by first | rfl | (simp; done) | (simp [*]; done)), H', ⟨by have := HK1.out; have := HJ10.out; first | omega | exact Nat.le_refl _⟩, ⟨by (with_reducible repeat (first | apply Kd.R_alloc | apply Kd.R_drewN | apply Kd.R_drew)); exact HO_3.out⟩, ⟨by repeat (first | (with_reducible first | exact HB.out | apply below_alloc | apply pw_below_drewN | apply below_drew1) | exact HB.out)⟩⟩
                        case rest =>
                          clear HC22
                          try clear c1
                          try clear p1
                          try clear q1
                          try clear hx1
                          try clear c2
                          try clear p2
                          try clear c3
                          try clear c5
                          try clear c5b0
                          try clear c5b1
                          try clear p6
                          try clear c7
                          try clear c8
                          try clear c8b0
                          try clear c9
                          try clear c9b0
                          try clear p10
                          try clear q10
                          try clear hx10
                          try clear c12
                          try clear c12b0
                          try clear c13
                          try clear c13b0
                          try clear c14
                          try clear c14b0
                          try clear c14b1
                          try clear c15
                          try clear p17
                          try clear q17
                          try clear hx17
                          try clear c18
                          try clear c19
                          try clear c19b0
                          try clear c20
                          try clear c20b0
                          try clear c21
                          try clear c25
                          try clear c25b0
                          try clear c25b1
                          try clear c26
                          try clear c26b0
                          try clear c26b1
                          try clear c27
                          try clear c27b0
                          try clear c28
                          try clear c28b0
                          try clear c28b1
                          try clear c29
                          try clear c29b0
                          try clear c29b1
                          try clear c30
                          try clear c30b0
                          try clear c30b1
                          try clear c31
                          try clear c31b0
                          try clear c31b1
                          try clear c32
                          try clear c32b0
                          try clear c32b1
                          try clear c33
                          try clear c33b0
                          try clear c33b1
                          try clear c34
                          try clear c34b0
                          try clear c34b1
                          try clear c35
                          try clear c35b0
                          try clear c35b1
                          try clear hx172_0
                          try clear hx172_1
                          try clear hx172_2
                          try clear hx172_3
                          try clear hx172_4
                          try clear hx173_0
                          try clear hx173_1
                          try clear hx173_2
                          try clear hx173_3
                          try clear hx173_4
                          try clear hx174_0
                          try clear hx174_1
                          try clear hx174_2
                          try clear hx174_3
                          try clear hx174_4
                          try clear hx177_0
                          try clear hx177_1
                          try clear hx177_2
                          try clear hx177_3
                          try clear hx177_4
                          try clear hx178_0
                          try clear hx178_1
                          try clear hx178_2
                          try clear hx178_3
                          try clear hx178_4
                          try clear hx179_0
                          try clear hx179_1
                          try clear hx179_2
                          try clear hx179_3
                          try clear hx179_4
                          try clear p1
                          try clear p10
                          try clear p17
                          try clear p172
                          try clear p173
                          try clear p174
                          try clear p177
                          try clear p178
                          try clear p179
                          try clear p2
                          try clear q1
                          try clear q10
                          try clear q17
                          try clear q172
                          try clear q173
                          try clear q174
                          try clear q177
                          try clear q178
                          try clear q179
                          obtain ⟨kq, x113_21, rfl, HA, HJ21, HO_3, HB⟩ := hcut
                          cases kq with
                          | zero => exact absurd HA.out (by simp [tribunallaw06_LexisPlaces.j2])
                          | succ kj21 =>
                            have H := HA.out
                            clear HA
                            simp only [tribunallaw06_LexisPlaces.j2] at H
                            by_cases c36 : x113_21 = true
                            · subst c36
                              have H1 : (some false) = some r := by rw [if_pos rfl] at H; exact H
                              clear H
                              have H := H1
                              clear H1
                              obtain rfl := Option.some.inj H
                              go_wp2
                              go_ret
                              exact ⟨by first | rfl | (simp [errW_none, errW_some] <;> rfl) | (simp [*, errW_none, errW_some] <;> rfl), by repeat (first | (with_reducible first | exact HB.out | apply below_alloc | apply pw_below_drewN | apply below_drew1) | exact HB.out)⟩
                            · replace c36 := Bool.eq_false_iff.mpr c36
                              subst c36
                              have H1 : (tribunallaw06_LexisPlaces.l1 kj21 a0 t166 x7_1 x8_1 x9_1 x10_1 t175 0) = some r := by rw [if_neg (show ¬ (false = true) by decide)] at H; exact H
                              clear H
                              have H := H1
                              clear H1
                              have H' := Aside0.mk H
                              clear H
                              go_wp2
                              go_loopg [8, 9, 14] kj21 (fun kq v8 v9 v14 w' => ∃ (x8_4 : Int) (x9_4 : Int) (x14_4 : Int), v8 = .int .i64 x8_4 ∧ v9 = .int .i64 x9_4 ∧ v14 = .int .i64 x14_4 ∧ Aside0 (tribunallaw06_LexisPlaces.l1 kq a0 t166 x7_1 x8_4 x9_4 x10_1 t175 x14_4 = some r) ∧ Aside0 (kq ≤ kj21) ∧ Aside0 (Kd.R k38 38 w' w.heap.size (fun _ => True) (.slice (some ad174) t166.length co23) t166) ∧ Aside0 (Below w.heap.size w w'))
                              case atStart => exact ⟨(x8_1), (x9_1), (0), (by first | rfl | (simp; done) | (simp [*]; done)), (by first | rfl | (simp; done) | (simp [*]; done)), (by first | rfl | (simp; done) | (simp [*]; done)), H', ⟨Nat.le_refl _⟩, ⟨by (with_reducible repeat (first | apply Kd.R_alloc | apply Kd.R_drewN | apply Kd.R_drew)); exact HO_3.out⟩, ⟨by repeat (first | (with_reducible first | exact HB.out | apply below_alloc | apply pw_below_drewN | apply below_drew1) | exact HB.out)⟩⟩
                              case round =>
                                clear H'
                                try clear c1
                                try clear p1
                                try clear q1
                                try clear hx1
                                try clear c2
                                try clear p2
                                try clear c3
                                try clear c5
                                try clear c5b0
                                try clear c5b1
                                try clear p6
                                try clear c7
                                try clear c8
                                try clear c8b0
                                try clear c9
                                try clear c9b0
                                try clear p10
                                try clear q10
                                try clear hx10
                                try clear c12
                                try clear c12b0
                                try clear c13
                                try clear c13b0
                                try clear c14
                                try clear c14b0
                                try clear c14b1
                                try clear c15
                                try clear p17
                                try clear q17
                                try clear hx17
                                try clear c18
                                try clear c19
                                try clear c19b0
                                try clear c20
                                try clear c20b0
                                try clear c21
                                try clear c25
                                try clear c25b0
                                try clear c25b1
                                try clear c26
                                try clear c26b0
                                try clear c26b1
                                try clear c27
                                try clear c27b0
                                try clear c28
                                try clear c28b0
                                try clear c28b1
                                try clear c29
                                try clear c29b0
                                try clear c29b1
                                try clear c30
                                try clear c30b0
                                try clear c30b1
                                try clear c31
                                try clear c31b0
                                try clear c31b1
                                try clear c32
                                try clear c32b0
                                try clear c32b1
                                try clear c33
                                try clear c33b0
                                try clear c33b1
                                try clear c34
                                try clear c34b0
                                try clear c34b1
                                try clear c35
                                try clear c35b0
                                try clear c35b1
                                try clear c36
                                try clear hx172_0
                                try clear hx172_1
                                try clear hx172_2
                                try clear hx172_3
                                try clear hx172_4
                                try clear hx173_0
                                try clear hx173_1
                                try clear hx173_2
                                try clear hx173_3
                                try clear hx173_4
                                try clear hx174_0
                                try clear hx174_1
                                try clear hx174_2
                                try clear hx174_3
                                try clear hx174_4
                                try clear hx177_0
                                try clear hx177_1
                                try clear hx177_2
                                try clear hx177_3
                                try clear hx177_4
                                try clear hx178_0
                                try clear hx178_1
                                try clear hx178_2
                                try clear hx178_3
                                try clear hx178_4
                                try clear hx179_0
                                try clear hx179_1
                                try clear hx179_2
                                try clear hx179_3
                                try clear hx179_4
                                try clear p1
                                try clear p10
                                try clear p17
                                try clear p172
                                try clear p173
                                try clear p174
                                try clear p177
                                try clear p178
                                try clear p179
                                try clear p2
                                try clear p6
                                try clear q1
                                try clear q10
                                try clear q17
                                try clear q172
                                try clear q173
                                try clear q174
                                try clear q177
                                try clear q178
                                try clear q179
                                obtain ⟨x8_4, x9_4, x14_4, rfl, rfl, rfl, HA, HK4, HO_3, HB⟩ := hrel
                                cases gk with
                                | zero => exact absurd HA.out (by simp [tribunallaw06_LexisPlaces.l1])
                                | succ k4 =>
                                  have H := HA.out
                                  clear HA
                                  simp only [tribunallaw06_LexisPlaces.l1] at H
                                  by_cases c37 : x14_4 < (t175.size : Int)
                                  · rw [if_pos c37] at H
                                    have c37b0 : decide (x14_4 < (t175.size : Int)) = true := decide_eq_true c37
                                    clear c37
                                    by_cases c38 : 0 ≤ x14_4
                                    · rw [if_pos c38] at H
                                      have c38b0 : decide (0 ≤ x14_4) = true := decide_eq_true c38
                                      clear c38
                                      by_cases c40 : (bt t175 x14_4) = 10
                                      · rw [if_pos c40] at H
                                        have c40b0 : ((bt t175 x14_4) == 10) = true := beq_iff_eq.mpr c40
                                        have c40b1 : ((bt t175 x14_4) != 10) = false := bne_eq_false_iff_eq.mpr c40
                                        clear c40
                                        have H' := Aside0.mk H
                                        clear H
                                        have p39 : 0 ≤ (x14_4 : Int) := of_decide_eq_true (by first | (with_reducible assumption) | assumption)
                                        have q39 : x14_4 < (t175.size : Int) := of_decide_eq_true (by first | (with_reducible assumption) | assumption)
                                        have hx39 := bt_at t175 x14_4
                                        replace p39 := eq_true p39
                                        replace q39 := eq_true q39
                                        go_wp2
                                        go_roundg k4
                                        case measure => have := HK1.out; have := HJ10.out; have := HJ21.out; have := HK4.out; omega
                                        case rel => exact ⟨(wrap64 (x8_4 + 1)), (1), (wrap64 (x14_4 + 1)), (by first | rfl | (simp; done) | (simp [*]; done)), (by first | rfl | (simp; done) | (simp [*]; done)), (by first | rfl | (simp; done) | (simp [*]; done)), H', ⟨by have := HK1.out; have := HJ10.out; have := HJ21.out; have := HK4.out; omega⟩, ⟨by (with_reducible repeat (first | apply Kd.R_alloc | apply Kd.R_drewN | apply Kd.R_drew)); exact HO_3.out⟩, ⟨by repeat (first | (with_reducible first | exact HB.out | apply below_alloc | apply pw_below_drewN | apply below_drew1) | exact HB.out)⟩⟩
                                      · rw [if_neg c40] at H
                                        have c40b0 : ((bt t175 x14_4) == 10) = false := beq_eq_false_iff_ne.mpr c40
                                        have c40b1 : ((bt t175 x14_4) != 10) = true := bne_iff_ne.mpr c40
                                        have H' := Aside0.mk H
                                        clear H
                                        have p39 : 0 ≤ (x14_4 : Int) := of_decide_eq_true (by first | (with_reducible assumption) | assumption)
                                        have q39 : x14_4 < (t175.size : Int) := of_decide_eq_true (by first | (with_reducible assumption) | assumption)
                                        have hx39 := bt_at t175 x14_4
                                        replace p39 := eq_true p39
                                        replace q39 := eq_true q39
                                        go_wp2
                                        go_roundg k4
                                        case measure => have := HK1.out; have := HJ10.out; have := HJ21.out; have := HK4.out; omega
                                        case rel => exact ⟨(x8_4), (wrap64 (x9_4 + 1)), (wrap64 (x14_4 + 1)), (by first | rfl | (simp; done) | (simp [*]; done)), (by first | rfl | (simp; done) | (simp [*]; done)), (by first | rfl | (simp; done) | (simp [*]; done)), H', ⟨by have := HK1.out; have := HJ10.out; have := HJ21.out; have := HK4.out; omega⟩, ⟨by (with_reducible repeat (first | apply Kd.R_alloc | apply Kd.R_drewN | apply Kd.R_drew)); exact HO_3.out⟩, ⟨by repeat (first | (with_reducible first | exact HB.out | apply below_alloc | apply pw_below_drewN | apply below_drew1) | exact HB.out)⟩⟩
                                    · rw [if_neg c38] at H
                                      exact absurd H (by simp)
                                  · rw [if_neg c37] at H
                                    have c37b0 : decide (x14_4 < (t175.size : Int)) = false := decide_eq_false c37
                                    clear c37
                                    have H' := Aside0.mk H
                                    clear H
                                    go_wp2
                                    go_roundg k4
                                    case measure => have := HK1.out; have := HJ10.out; have := HJ21.out; have := HK4.out; omega
                                    case rel => exact ⟨(wrap64 (x7_1 + (t175.size : Int))), (x8_4), (x9_4), (wrap64 (x10_1 + 1)), (by first | rfl | (simp; done) | (simp [*]; done)), (by first | rfl | (simp; done) | (simp [*]; done)), (by first | rfl | (simp; done) | (simp [*]; done)), (by first | rfl | (simp; done) | (simp [*]; done)), H', ⟨by have := HK1.out; have := HJ10.out; have := HJ21.out; have := HK4.out; omega⟩, ⟨by (with_reducible repeat (first | apply Kd.R_alloc | apply Kd.R_drewN | apply Kd.R_drew)); exact HO_3.out⟩, ⟨by repeat (first | (with_reducible first | exact HB.out | apply below_alloc | apply pw_below_drewN | apply below_drew1) | exact HB.out)⟩⟩
                      · rw [if_neg c20] at H
                        exact absurd H (by simp)
                    · rw [if_neg c19] at H
                      exact absurd H (by simp)
                  · replace c18 := Bool.eq_false_iff.mpr c18
                    subst c18
                    have H1 : (if (bt a0 x7_1) = 59 then (tribunallaw06_LexisPlaces.l2 kj10 a0 t166 x7_1 x8_1 x9_1 x10_1) else ((tribunalref06_Blank.f (bt a0 x7_1)).bind fun t180 => (if t180 = true then (if (bt a0 x7_1) = 10 then (tribunallaw06_LexisPlaces.l0 kj10 a0 t166 (wrap64 (x7_1 + 1)) (wrap64 (x8_1 + 1)) 1 x10_1) else (tribunallaw06_LexisPlaces.l0 kj10 a0 t166 (wrap64 (x7_1 + 1)) x8_1 (wrap64 (x9_1 + 1)) x10_1)) else (some false)))) = some r := by rw [if_neg (show ¬ (false = true) by decide)] at H; exact H
                    clear H
                    have H := H1
                    clear H1
                    by_cases c41 : (bt a0 x7_1) = 59
                    · rw [if_pos c41] at H
                      have c41b0 : ((bt a0 x7_1) == 59) = true := beq_iff_eq.mpr c41
                      have c41b1 : ((bt a0 x7_1) != 59) = false := bne_eq_false_iff_eq.mpr c41
                      clear c41
                      have H' := Aside0.mk H
                      clear H
                      go_wp2
                      go_loopg [7, 9] kj10 (fun kq v7 v9 w' => ∃ (x7_3 : Int) (x9_3 : Int), v7 = .int .i64 x7_3 ∧ v9 = .int .i64 x9_3 ∧ Aside0 (tribunallaw06_LexisPlaces.l2 kq a0 t166 x7_3 x8_1 x9_3 x10_1 = some r) ∧ Aside0 (kq ≤ kj10) ∧ Aside0 (Kd.R k38 38 w' w.heap.size (fun _ => True) v170 t166) ∧ Aside0 (Below w.heap.size w w'))
                      case atStart => exact ⟨(x7_1), (x9_1), (by first | rfl | (simp; done) | (simp [*]; done)), (by first | rfl | (simp; done) | (simp [*]; done)), H', ⟨Nat.le_refl _⟩, ⟨by (with_reducible repeat (first | apply Kd.R_alloc | apply Kd.R_drewN | apply Kd.R_drew)); exact HO_3.out⟩, ⟨by repeat (first | (with_reducible first | exact HB.out | apply below_alloc | apply pw_below_drewN | apply below_drew1) | exact HB.out)⟩⟩
                      case round =>
                        clear H'
                        try clear c1
                        try clear p1
                        try clear q1
                        try clear hx1
                        try clear c2
                        try clear p2
                        try clear c3
                        try clear p3
                        try clear q3
                        try clear hx3
                        try clear c4
                        try clear c5
                        try clear c5b0
                        try clear c5b1
                        try clear p6
                        try clear c7
                        try clear c8
                        try clear c8b0
                        try clear c9
                        try clear c9b0
                        try clear p10
                        try clear q10
                        try clear hx10
                        try clear c12
                        try clear c12b0
                        try clear c13
                        try clear c13b0
                        try clear c14
                        try clear c14b0
                        try clear c14b1
                        try clear c15
                        try clear p17
                        try clear q17
                        try clear hx17
                        try clear c18
                        try clear c19
                        try clear c19b0
                        try clear c20
                        try clear c20b0
                        try clear c21
                        try clear c25
                        try clear c25b0
                        try clear c25b1
                        try clear c26
                        try clear c26b0
                        try clear c26b1
                        try clear c27
                        try clear c27b0
                        try clear c28
                        try clear c28b0
                        try clear c28b1
                        try clear c29
                        try clear c29b0
                        try clear c29b1
                        try clear c30
                        try clear c30b0
                        try clear c30b1
                        try clear c31
                        try clear c31b0
                        try clear c31b1
                        try clear c32
                        try clear c32b0
                        try clear c32b1
                        try clear c33
                        try clear c33b0
                        try clear c33b1
                        try clear c34
                        try clear c34b0
                        try clear c34b1
                        try clear c35
                        try clear c35b0
                        try clear c35b1
                        try clear c36
                        try clear c37
                        try clear c37b0
                        try clear c38
                        try clear c38b0
                        try clear p39
                        try clear q39
                        try clear hx39
                        try clear c40
                        try clear c40b0
                        try clear c40b1
                        try clear c41
                        try clear c41b0
                        try clear c41b1
                        try clear hx172_0
                        try clear hx172_1
                        try clear hx172_2
                        try clear hx172_3
                        try clear hx172_4
                        try clear hx173_0
                        try clear hx173_1
                        try clear hx173_2
                        try clear hx173_3
                        try clear hx173_4
                        try clear hx174_0
                        try clear hx174_1
                        try clear hx174_2
                        try clear hx174_3
                        try clear hx174_4
                        try clear hx177_0
                        try clear hx177_1
                        try clear hx177_2
                        try clear hx177_3
                        try clear hx177_4
                        try clear hx178_0
                        try clear hx178_1
                        try clear hx178_2
                        try clear hx178_3
                        try clear hx178_4
                        try clear hx179_0
                        try clear hx179_1
                        try clear hx179_2
                        try clear hx179_3
                        try clear hx179_4
                        try clear p1
                        try clear p10
                        try clear p17
                        try clear p172
                        try clear p173
                        try clear p174
                        try clear p177
                        try clear p178
                        try clear p179
                        try clear p2
                        try clear p39
                        try clear p6
                        try clear q1
                        try clear q10
                        try clear q17
                        try clear q172
                        try clear q173
                        try clear q174
                        try clear q177
                        try clear q178
                        try clear q179
                        try clear q39
                        obtain ⟨x7_3, x9_3, rfl, rfl, HA, HK3, HO_3, HB⟩ := hrel
                        cases gk with
                        | zero => exact absurd HA.out (by simp [tribunallaw06_LexisPlaces.l2])
                        | succ k3 =>
                          have H := HA.out
                          clear HA
                          simp only [tribunallaw06_LexisPlaces.l2] at H
                          by_cases c42 : x7_3 < (a0.size : Int)
                          · rw [if_pos c42] at H
                            have c42b0 : decide (x7_3 < (a0.size : Int)) = true := decide_eq_true c42
                            clear c42
                            by_cases c43 : 0 ≤ x7_3
                            · rw [if_pos c43] at H
                              have c43b0 : decide (0 ≤ x7_3) = true := decide_eq_true c43
                              clear c43
                              by_cases c45 : (bt a0 x7_3) = 10
                              · rw [if_pos c45] at H
                                have c45b0 : ((bt a0 x7_3) == 10) = true := beq_iff_eq.mpr c45
                                have c45b1 : ((bt a0 x7_3) != 10) = false := bne_eq_false_iff_eq.mpr c45
                                clear c45
                                have H' := Aside0.mk H
                                clear H
                                have p44 : 0 ≤ (x7_3 : Int) := of_decide_eq_true (by first | (with_reducible assumption) | assumption)
                                have q44 : x7_3 < (a0.size : Int) := of_decide_eq_true (by first | (with_reducible assumption) | assumption)
                                have hx44 := bt_at a0 x7_3
                                replace p44 := eq_true p44
                                replace q44 := eq_true q44
                                go_wp2
                                go_roundg k3
                                case measure => have := HK1.out; have := HJ10.out; have := HK3.out; omega
                                case rel => exact ⟨(x7_3), (x8_1), (x9_3), (x10_1), (by first | rfl | (simp; done) | (simp [*]; done)), (by first | rfl | (simp; done) | (simp [*]; done)), (by first | rfl | (simp; done) | (simp [*]; done)), (by first | rfl | (simp; done) | (simp [*]; done)), H', ⟨by have := HK1.out; have := HJ10.out; have := HK3.out; omega⟩, ⟨by (with_reducible repeat (first | apply Kd.R_alloc | apply Kd.R_drewN | apply Kd.R_drew)); exact HO_3.out⟩, ⟨by repeat (first | (with_reducible first | exact HB.out | apply below_alloc | apply pw_below_drewN | apply below_drew1) | exact HB.out)⟩⟩
                              · rw [if_neg c45] at H
                                have c45b0 : ((bt a0 x7_3) == 10) = false := beq_eq_false_iff_ne.mpr c45
                                have c45b1 : ((bt a0 x7_3) != 10) = true := bne_iff_ne.mpr c45
                                have H' := Aside0.mk H
                                clear H
                                have p44 : 0 ≤ (x7_3 : Int) := of_decide_eq_true (by first | (with_reducible assumption) | assumption)
                                have q44 : x7_3 < (a0.size : Int) := of_decide_eq_true (by first | (with_reducible assumption) | assumption)
                                have hx44 := bt_at a0 x7_3
                                replace p44 := eq_true p44
                                replace q44 := eq_true q44
                                go_wp2
                                go_roundg k3
                                case measure => have := HK1.out; have := HJ10.out; have := HK3.out; omega
                                case rel => exact ⟨(wrap64 (x7_3 + 1)), (wrap64 (x9_3 + 1)), (by first | rfl | (simp; done) | (simp [*]; done)), (by first | rfl | (simp; done) | (simp [*]; done)), H', ⟨by have := HK1.out; have := HJ10.out; have := HK3.out; omega⟩, ⟨by (with_reducible repeat (first | apply Kd.R_alloc | apply Kd.R_drewN | apply Kd.R_drew)); exact HO_3.out⟩, ⟨by repeat (first | (with_reducible first | exact HB.out | apply below_alloc | apply pw_below_drewN | apply below_drew1) | exact HB.out)⟩⟩
                            · rw [if_neg c43] at H
                              exact absurd H (by simp)
                          · rw [if_neg c42] at H
                            have c42b0 : decide (x7_3 < (a0.size : Int)) = false := decide_eq_false c42
                            clear c42
                            have H' := Aside0.mk H
                            clear H
                            go_wp2
                            go_roundg k3
                            case measure => have := HK1.out; have := HJ10.out; have := HK3.out; omega
                            case rel => exact ⟨(x7_3), (x8_1), (x9_3), (x10_1), (by first | rfl | (simp; done) | (simp [*]; done)), (by first | rfl | (simp; done) | (simp [*]; done)), (by first | rfl | (simp; done) | (simp [*]; done)), (by first | rfl | (simp; done) | (simp [*]; done)), H', ⟨by have := HK1.out; have := HJ10.out; have := HK3.out; omega⟩, ⟨by (with_reducible repeat (first | apply Kd.R_alloc | apply Kd.R_drewN | apply Kd.R_drew)); exact HO_3.out⟩, ⟨by repeat (first | (with_reducible first | exact HB.out | apply below_alloc | apply pw_below_drewN | apply below_drew1) | exact HB.out)⟩⟩
                    · rw [if_neg c41] at H
                      have c41b0 : ((bt a0 x7_1) == 59) = false := beq_eq_false_iff_ne.mpr c41
                      have c41b1 : ((bt a0 x7_1) != 59) = true := bne_iff_ne.mpr c41
                      replace H := Option.bind_eq_some_iff.mp H
                      obtain ⟨t180, A460, H⟩ := H
                      replace H : (if t180 = true then (if (bt a0 x7_1) = 10 then (tribunallaw06_LexisPlaces.l0 kj10 a0 t166 (wrap64 (x7_1 + 1)) (wrap64 (x8_1 + 1)) 1 x10_1) else (tribunallaw06_LexisPlaces.l0 kj10 a0 t166 (wrap64 (x7_1 + 1)) x8_1 (wrap64 (x9_1 + 1)) x10_1)) else (some false)) = some r := H
                      have A46 := Aside0.mk A460
                      clear A460
                      by_cases c47 : t180 = true
                      · subst c47
                        have H1 : (if (bt a0 x7_1) = 10 then (tribunallaw06_LexisPlaces.l0 kj10 a0 t166 (wrap64 (x7_1 + 1)) (wrap64 (x8_1 + 1)) 1 x10_1) else (tribunallaw06_LexisPlaces.l0 kj10 a0 t166 (wrap64 (x7_1 + 1)) x8_1 (wrap64 (x9_1 + 1)) x10_1)) = some r := by rw [if_pos rfl] at H; exact H
                        clear H
                        have H := H1
                        clear H1
                        by_cases c48 : (bt a0 x7_1) = 10
                        · rw [if_pos c48] at H
                          have c48b0 : ((bt a0 x7_1) == 10) = true := beq_iff_eq.mpr c48
                          have c48b1 : ((bt a0 x7_1) != 10) = false := bne_eq_false_iff_eq.mpr c48
                          clear c48
                          have H' := Aside0.mk H
                          clear H
                          go_wp2_with (first | ((with_reducible refine gate_callee (f := 22) rfl ?_); refine goesL_ (some 151) rfl rfl Tryd.func22 (by kernel_rfl) rfl #[.int .u8 (bt a0 x7_1)] rfl (by (try simp only [List.map_toArray, List.map_cons, List.map_nil]); first | done | rfl | (simp only [List.length_drop, List.length_take]; rfl)) ?_; (with_reducible refine (tribunalref06_Blank.calls (bt a0 x7_1) true _ A46.out).mono ?_); rintro e w' ⟨rfl, ⟨nd, rfl⟩⟩; refine ⟨_, rfl, ?_⟩))
                          go_roundg kj10
                          case measure => have := HK1.out; have := HJ10.out; omega
                          case rel => exact ⟨(wrap64 (x7_1 + 1)), (wrap64 (x8_1 + 1)), (1), (x10_1), (by first | rfl | (simp; done) | (simp [*]; done)), (by first | rfl | (simp; done) | (simp [*]; done)), (by first | rfl | (simp; done) | (simp [*]; done)), (by first | rfl | (simp; done) | (simp [*]; done)), H', ⟨by have := HK1.out; have := HJ10.out; omega⟩, ⟨by (with_reducible repeat (first | apply Kd.R_alloc | apply Kd.R_drewN | apply Kd.R_drew)); exact HO_3.out⟩, ⟨by repeat (first | (with_reducible first | exact HB.out | apply below_alloc | apply pw_below_drewN | apply below_drew1) | exact HB.out)⟩⟩
                        · rw [if_neg c48] at H
                          have c48b0 : ((bt a0 x7_1) == 10) = false := beq_eq_false_iff_ne.mpr c48
                          have c48b1 : ((bt a0 x7_1) != 10) = true := bne_iff_ne.mpr c48
                          have H' := Aside0.mk H
                          clear H
                          go_wp2_with (first | ((with_reducible refine gate_callee (f := 22) rfl ?_); refine goesL_ (some 151) rfl rfl Tryd.func22 (by kernel_rfl) rfl #[.int .u8 (bt a0 x7_1)] rfl (by (try simp only [List.map_toArray, List.map_cons, List.map_nil]); first | done | rfl | (simp only [List.length_drop, List.length_take]; rfl)) ?_; (with_reducible refine (tribunalref06_Blank.calls (bt a0 x7_1) true _ A46.out).mono ?_); rintro e w' ⟨rfl, ⟨nd, rfl⟩⟩; refine ⟨_, rfl, ?_⟩))
                          go_roundg kj10
                          case measure => have := HK1.out; have := HJ10.out; omega
                          case rel => exact ⟨(wrap64 (x7_1 + 1)), (x8_1), (wrap64 (x9_1 + 1)), (x10_1), (by first | rfl | (simp; done) | (simp [*]; done)), (by first | rfl | (simp; done) | (simp [*]; done)), (by first | rfl | (simp; done) | (simp [*]; done)), (by first | rfl | (simp; done) | (simp [*]; done)), H', ⟨by have := HK1.out; have := HJ10.out; omega⟩, ⟨by (with_reducible repeat (first | apply Kd.R_alloc | apply Kd.R_drewN | apply Kd.R_drew)); exact HO_3.out⟩, ⟨by repeat (first | (with_reducible first | exact HB.out | apply below_alloc | apply pw_below_drewN | apply below_drew1) | exact HB.out)⟩⟩
                      · replace c47 := Bool.eq_false_iff.mpr c47
                        subst c47
                        have H1 : (some false) = some r := by rw [if_neg (show ¬ (false = true) by decide)] at H; exact H
                        clear H
                        have H := H1
                        clear H1
                        obtain rfl := Option.some.inj H
                        go_wp2_with (first | ((with_reducible refine gate_callee (f := 22) rfl ?_); refine goesL_ (some 151) rfl rfl Tryd.func22 (by kernel_rfl) rfl #[.int .u8 (bt a0 x7_1)] rfl (by (try simp only [List.map_toArray, List.map_cons, List.map_nil]); first | done | rfl | (simp only [List.length_drop, List.length_take]; rfl)) ?_; (with_reducible refine (tribunalref06_Blank.calls (bt a0 x7_1) false _ A46.out).mono ?_); rintro e w' ⟨rfl, ⟨nd, rfl⟩⟩; refine ⟨_, rfl, ?_⟩))
                        go_ret
                        exact ⟨by first | rfl | (simp [errW_none, errW_some] <;> rfl) | (simp [*, errW_none, errW_some] <;> rfl), by repeat (first | (with_reducible first | exact HB.out | apply below_alloc | apply pw_below_drewN | apply below_drew1) | exact HB.out)⟩
            · rw [if_neg c9] at H
              exact absurd H (by simp)
          · rw [if_neg c8] at H
            have c8b0 : decide (x7_1 < (a0.size : Int)) = false := decide_eq_false c8
            clear c8
            obtain rfl := Option.some.inj H
            obtain ⟨Ao49, co49, eo49⟩ := Kd.R_slice HO_3.out
            subst eo49
            go_wp2
            go_ret
            exact ⟨by first | rfl | (simp [errW_none, errW_some] <;> rfl) | (simp [*, errW_none, errW_some] <;> rfl), by repeat (first | (with_reducible first | exact HB.out | apply below_alloc | apply pw_below_drewN | apply below_drew1) | exact HB.out)⟩
    · rw [if_neg c5] at H
      have c5b0 : (t169 == 0) = false := beq_eq_false_iff_ne.mpr c5
      have c5b1 : (t169 != 0) = true := bne_iff_ne.mpr c5
      obtain rfl := Option.some.inj H
      go_enter Tryd.func7, Tryd.ntmps7
      go_wp2_with (first | ((with_reducible refine gate_callee (f := 18) rfl ?_); refine goesL_ (some 15) rfl rfl Tryd.func18 (by kernel_rfl) rfl #[] rfl (by (try simp only [List.map_toArray, List.map_cons, List.map_nil]); first | done | rfl | (simp only [List.length_drop, List.length_take]; rfl)) ?_; (with_reducible refine (tribunallaw06_awake.calls  true _ A2.out).mono ?_); rintro e w50 ⟨rfl, hb⟩; refine ⟨_, rfl, ?_⟩; have n0_ := Aside0.mk (below_step (by repeat (first | (with_reducible first | exact HB.out | apply below_alloc | apply pw_below_drewN | apply below_drew1) | exact HB.out)) hb); clear HB; have HB := n0_; clear n0_; (try clear hb); (try clear hb2); (try clear hk); (try clear hi)) | ((with_reducible refine gate_callee (f := 15) rfl ?_); refine goesL_ (some 19) rfl rfl Tryd.func15 (by kernel_rfl) rfl #[.string a0] rfl (by (try simp only [List.map_toArray, List.map_cons, List.map_nil]); first | done | rfl | (simp only [List.length_drop, List.length_take]; rfl)) ?_; (with_reducible refine (lexis_Scan.calls a0 t166 t167 t168 t169 _ A4.out).mono ?_); rintro e w51 ⟨v170, rfl, ho0, hb⟩; refine ⟨_, rfl, ?_⟩; have n0_ := Aside0.mk (Kd.R_lower ho0 (below_size (by repeat (first | (with_reducible first | exact HB.out | apply below_alloc | apply pw_below_drewN | apply below_drew1) | exact HB.out)))); have n1_ := Aside0.mk (below_step (by repeat (first | (with_reducible first | exact HB.out | apply below_alloc | apply pw_below_drewN | apply below_drew1) | exact HB.out)) hb); clear HB; have HO171 := n0_; have HB := n1_; clear n0_ n1_; (try clear hb); (try clear hb2); (try clear hk); (try clear hi); (try clear ho0)))
      go_ret
      exact ⟨by first | rfl | (simp [errW_none, errW_some] <;> rfl) | (simp [*, errW_none, errW_some] <;> rfl), by repeat (first | (with_reducible first | exact HB.out | apply below_alloc | apply pw_below_drewN | apply below_drew1) | exact HB.out)⟩
  · replace c3 := Bool.eq_false_iff.mpr c3
    subst c3
    have H1 : (some false) = some r := by rw [if_neg (show ¬ (false = true) by decide)] at H; exact H
    clear H
    have H := H1
    clear H1
    obtain rfl := Option.some.inj H
    go_enter Tryd.func7, Tryd.ntmps7
    go_wp2_with (first | ((with_reducible refine gate_callee (f := 18) rfl ?_); refine goesL_ (some 15) rfl rfl Tryd.func18 (by kernel_rfl) rfl #[] rfl (by (try simp only [List.map_toArray, List.map_cons, List.map_nil]); first | done | rfl | (simp only [List.length_drop, List.length_take]; rfl)) ?_; (with_reducible refine (tribunallaw06_awake.calls  false _ A2.out).mono ?_); rintro e w52 ⟨rfl, hb⟩; refine ⟨_, rfl, ?_⟩; have n0_ := Aside0.mk (below_step (by repeat (first | (with_reducible first | exact HB.out | apply below_alloc | apply pw_below_drewN | apply below_drew1) | exact HB.out)) hb); clear HB; have HB := n0_; clear n0_; (try clear hb); (try clear hb2); (try clear hk); (try clear hi)))
    go_ret
    exact ⟨by first | rfl | (simp [errW_none, errW_some] <;> rfl) | (simp [*, errW_none, errW_some] <;> rfl), by repeat (first | (with_reducible first | exact HB.out | apply below_alloc | apply pw_below_drewN | apply below_drew1) | exact HB.out)⟩

/-- THE ONE PURE STATEMENT of tribunallaw06_LexisPlaces: yours. -/
def tribunallaw06_LexisPlaces.Pure : Prop := ∀ (a0 : ByteArray), a0.size ≤ 140737488351232 → ∃ k, tribunallaw06_LexisPlaces.f k a0 = some true
theorem tribunallaw06_LexisPlaces.walk (P : tribunallaw06_LexisPlaces.Pure) (a0 : ByteArray) (w : World) (w0 : a0.size ≤ 140737488351232) :
    Calls Tryd.prog 7 #[.string a0] w fun e w' => e = .returned (.bool true) ∧ Below w.heap.size w w' := by
  obtain ⟨k, h⟩ := P a0 w0
  refine (tribunallaw06_LexisPlaces.calls k a0 true w h).mono ?_
  rintro e w' ⟨rfl, hd⟩
  exact ⟨rfl, hd⟩

end Go.Proofs.YthklnopfgoekeaaDoor.X
