-- written by this session's wip/pr.py, which runs the kit's printer
import Derived.Test.YthklnopfgoekeaaDoorX0
import Derived.Test.YthklnopfgoekeaaDoorX10
import Derived.Test.YthklnopfgoekeaaDoorHParse
namespace Go.Proofs.YthklnopfgoekeaaDoor.X
open Go.RowKit Go.Proofs.YthklnopfgoekeaaDoorW.PrintWords Go.Proofs.YthklnopfgoekeaaDoorW.PrintLast Go.Proofs.YthklnopfgoekeaaDoorW.PrintMore
attribute [local go_sem] max2_int min2_int max_two min_two max_three min_three max_four min_four   -- for this text's walks alone
set_option linter.unusedVariables false
set_option linter.unusedSimpArgs false

/-! ### tribunallaw07_SexpOnce: function 13 -/
mutual
def tribunallaw07_SexpOnce.l0 : Nat → List (S38) → List (S57) → List Int → List Int → Int → Option (Bool)
 | 0, _, _, _, _, _ => none
 | k + 1, x0, x3, x4, x8, x9 => if x9 < (x4.length : Int) then (if 0 ≤ x9 then (if (rd x4 x9) < 0 then (some false) else (if (rd x4 x9) ≥ (x3.length : Int) then (some false) else (if x9 > 0 then (if 0 ≤ (wrap64 (x9 - 1)) then (if (wrap64 (x9 - 1)) < (x4.length : Int) then (if (rd x4 x9) ≤ (rd x4 (wrap64 (x9 - 1))) then (some false) else (if 0 ≤ (rd x4 x9) then (if (rd x4 x9) < (x8.length : Int) then (tribunallaw07_SexpOnce.l0 k x0 x3 x4 (x8.set ((rd x4 x9) : Int).toNat (wrap64 ((rd x8 (rd x4 x9)) + 1))) (wrap64 (x9 + 1))) else (none)) else (none))) else (none)) else (none)) else (if 0 ≤ (rd x4 x9) then (if (rd x4 x9) < (x8.length : Int) then (tribunallaw07_SexpOnce.l0 k x0 x3 x4 (x8.set ((rd x4 x9) : Int).toNat (wrap64 ((rd x8 (rd x4 x9)) + 1))) (wrap64 (x9 + 1))) else (none)) else (none))))) else (none)) else (tribunallaw07_SexpOnce.l1 k x0 x3 x8 0 0)
def tribunallaw07_SexpOnce.l1 : Nat → List (S38) → List (S57) → List Int → Int → Int → Option (Bool)
 | 0, _, _, _, _, _ => none
 | k + 1, x0, x3, x8, x10, x11 => if x11 < (x3.length : Int) then (if 0 ≤ x11 then (if ((rd_T57 x3 x11).f0) = 1 then (tribunallaw07_SexpOnce.j2 k x0 x3 x8 (wrap64 (x10 + 1)) x11) else (tribunallaw07_SexpOnce.j2 k x0 x3 x8 x10 x11)) else (none)) else (tribunallaw07_SexpOnce.l3 k x0 x3 x8 x10 0)
def tribunallaw07_SexpOnce.j2 : Nat → List (S38) → List (S57) → List Int → Int → Int → Option (Bool)
 | 0, _, _, _, _, _ => none
 | k + 1, x0, x3, x8, x10, x11 => tribunallaw07_SexpOnce.l2 k x0 x3 x8 x10 x11 0
def tribunallaw07_SexpOnce.l2 : Nat → List (S38) → List (S57) → List Int → Int → Int → Int → Option (Bool)
 | 0, _, _, _, _, _, _ => none
 | k + 1, x0, x3, x8, x10, x11, x12 => if 0 ≤ x11 then (if x11 < (x3.length : Int) then (if x12 < (((rd_T57 x3 x11).f2).length : Int) then (if 0 ≤ x12 then (if (rd ((rd_T57 x3 x11).f2) x12) < 0 then (some false) else (if (rd ((rd_T57 x3 x11).f2) x12) ≥ x11 then (some false) else (if 0 ≤ (rd ((rd_T57 x3 x11).f2) x12) then (if (rd ((rd_T57 x3 x11).f2) x12) < (x8.length : Int) then (tribunallaw07_SexpOnce.l2 k x0 x3 (x8.set ((rd ((rd_T57 x3 x11).f2) x12) : Int).toNat (wrap64 ((rd x8 (rd ((rd_T57 x3 x11).f2) x12)) + 1))) x10 x11 (wrap64 (x12 + 1))) else (none)) else (none)))) else (none)) else (tribunallaw07_SexpOnce.l1 k x0 x3 x8 x10 (wrap64 (x11 + 1)))) else (none)) else (none)
def tribunallaw07_SexpOnce.l3 : Nat → List (S38) → List (S57) → List Int → Int → Int → Option (Bool)
 | 0, _, _, _, _, _ => none
 | k + 1, x0, x3, x8, x10, x13 => if x13 < (x8.length : Int) then (if 0 ≤ x13 then (if (rd x8 x13) = 1 then (tribunallaw07_SexpOnce.l3 k x0 x3 x8 x10 (wrap64 (x13 + 1))) else (some false)) else (none)) else (if (wrap64 (x10 + (wrap64 (2 * (wrap64 ((x3.length : Int) - x10)))))) = (x0.length : Int) then ((tribunallaw07_alive.f k).bind fun t429 => (some t429)) else (some false))
end
def tribunallaw07_SexpOnce.f (k : Nat) (l0 : List (S38)) : Option (Bool) := (sexp_Parse.f l0).bind fun bt395 => (if bt395.2.2.2.2 = 0 then (if 0 ≤ (bt395.1.length : Int) then (if ((bt395.1.length : Int) : Int).toNat ≤ 35184372088832 then (tribunallaw07_SexpOnce.l0 k l0 bt395.1 bt395.2.1 (List.replicate ((bt395.1.length : Int) : Int).toNat 0) 0) else (none)) else (none)) else (if (bt395.1.length : Int) = 0 then (if (bt395.2.1.length : Int) = 0 then ((tribunallaw07_alive.f k).bind fun t404 => (some t404)) else (some false)) else (some false)))
theorem tribunallaw07_SexpOnce.mono_l : ∀ k, (∀ y0 y1 y2 y3 y4, LeO (tribunallaw07_SexpOnce.l0 k y0 y1 y2 y3 y4) (tribunallaw07_SexpOnce.l0 (k + 1) y0 y1 y2 y3 y4)) ∧ (∀ y0 y1 y2 y3 y4, LeO (tribunallaw07_SexpOnce.l1 k y0 y1 y2 y3 y4) (tribunallaw07_SexpOnce.l1 (k + 1) y0 y1 y2 y3 y4)) ∧ (∀ y0 y1 y2 y3 y4, LeO (tribunallaw07_SexpOnce.j2 k y0 y1 y2 y3 y4) (tribunallaw07_SexpOnce.j2 (k + 1) y0 y1 y2 y3 y4)) ∧ (∀ y0 y1 y2 y3 y4 y5, LeO (tribunallaw07_SexpOnce.l2 k y0 y1 y2 y3 y4 y5) (tribunallaw07_SexpOnce.l2 (k + 1) y0 y1 y2 y3 y4 y5)) ∧ (∀ y0 y1 y2 y3 y4, LeO (tribunallaw07_SexpOnce.l3 k y0 y1 y2 y3 y4) (tribunallaw07_SexpOnce.l3 (k + 1) y0 y1 y2 y3 y4))
 | 0 => ⟨fun _ _ _ _ _ r h => by simp [tribunallaw07_SexpOnce.l0] at h, fun _ _ _ _ _ r h => by simp [tribunallaw07_SexpOnce.l1] at h, fun _ _ _ _ _ r h => by simp [tribunallaw07_SexpOnce.j2] at h, fun _ _ _ _ _ _ r h => by simp [tribunallaw07_SexpOnce.l2] at h, fun _ _ _ _ _ r h => by simp [tribunallaw07_SexpOnce.l3] at h⟩
 | k + 1 => by
  obtain ⟨ih0, ih1, ih2, ih3, ih4⟩ := tribunallaw07_SexpOnce.mono_l k
  refine ⟨?_, ?_, ?_, ?_, ?_⟩
  ·intro y0 y1 y2 y3 y4
   unfold tribunallaw07_SexpOnce.l0
   repeat' first
   | (with_reducible exact ih0 _ _ _ _ _)
   | (with_reducible exact ih1 _ _ _ _ _)
   | (with_reducible exact ih2 _ _ _ _ _)
   | (with_reducible exact ih3 _ _ _ _ _ _)
   | (with_reducible exact ih4 _ _ _ _ _)
   | (with_reducible exact tribunallaw07_alive.mono _)
   | (with_reducible exact LeO.refl _)
   | (with_reducible exact LeO.none _)
   | (with_reducible refine LeO.ite ?_ ?_)
   | (with_reducible refine LeO.bind ?_ (fun _ => ?_))
   | exact ih0 _ _ _ _ _
   | exact ih1 _ _ _ _ _
   | exact ih2 _ _ _ _ _
   | exact ih3 _ _ _ _ _ _
   | exact ih4 _ _ _ _ _
   | exact tribunallaw07_alive.mono _
   | exact LeO.none _
   | refine LeO.ite ?_ ?_
   | refine LeO.bind ?_ (fun _ => ?_)
  ·intro y0 y1 y2 y3 y4
   unfold tribunallaw07_SexpOnce.l1
   repeat' first
   | (with_reducible exact ih0 _ _ _ _ _)
   | (with_reducible exact ih1 _ _ _ _ _)
   | (with_reducible exact ih2 _ _ _ _ _)
   | (with_reducible exact ih3 _ _ _ _ _ _)
   | (with_reducible exact ih4 _ _ _ _ _)
   | (with_reducible exact tribunallaw07_alive.mono _)
   | (with_reducible exact LeO.refl _)
   | (with_reducible exact LeO.none _)
   | (with_reducible refine LeO.ite ?_ ?_)
   | (with_reducible refine LeO.bind ?_ (fun _ => ?_))
   | exact ih0 _ _ _ _ _
   | exact ih1 _ _ _ _ _
   | exact ih2 _ _ _ _ _
   | exact ih3 _ _ _ _ _ _
   | exact ih4 _ _ _ _ _
   | exact tribunallaw07_alive.mono _
   | exact LeO.none _
   | refine LeO.ite ?_ ?_
   | refine LeO.bind ?_ (fun _ => ?_)
  ·intro y0 y1 y2 y3 y4
   unfold tribunallaw07_SexpOnce.j2
   repeat' first
   | (with_reducible exact ih0 _ _ _ _ _)
   | (with_reducible exact ih1 _ _ _ _ _)
   | (with_reducible exact ih2 _ _ _ _ _)
   | (with_reducible exact ih3 _ _ _ _ _ _)
   | (with_reducible exact ih4 _ _ _ _ _)
   | (with_reducible exact tribunallaw07_alive.mono _)
   | (with_reducible exact LeO.refl _)
   | (with_reducible exact LeO.none _)
   | (with_reducible refine LeO.ite ?_ ?_)
   | (with_reducible refine LeO.bind ?_ (fun _ => ?_))
   | exact ih0 _ _ _ _ _
   | exact ih1 _ _ _ _ _
   | exact ih2 _ _ _ _ _
   | exact ih3 _ _ _ _ _ _
   | exact ih4 _ _ _ _ _
   | exact tribunallaw07_alive.mono _
   | exact LeO.none _
   | refine LeO.ite ?_ ?_
   | refine LeO.bind ?_ (fun _ => ?_)
  ·intro y0 y1 y2 y3 y4 y5
   unfold tribunallaw07_SexpOnce.l2
   repeat' first
   | (with_reducible exact ih0 _ _ _ _ _)
   | (with_reducible exact ih1 _ _ _ _ _)
   | (with_reducible exact ih2 _ _ _ _ _)
   | (with_reducible exact ih3 _ _ _ _ _ _)
   | (with_reducible exact ih4 _ _ _ _ _)
   | (with_reducible exact tribunallaw07_alive.mono _)
   | (with_reducible exact LeO.refl _)
   | (with_reducible exact LeO.none _)
   | (with_reducible refine LeO.ite ?_ ?_)
   | (with_reducible refine LeO.bind ?_ (fun _ => ?_))
   | exact ih0 _ _ _ _ _
   | exact ih1 _ _ _ _ _
   | exact ih2 _ _ _ _ _
   | exact ih3 _ _ _ _ _ _
   | exact ih4 _ _ _ _ _
   | exact tribunallaw07_alive.mono _
   | exact LeO.none _
   | refine LeO.ite ?_ ?_
   | refine LeO.bind ?_ (fun _ => ?_)
  ·intro y0 y1 y2 y3 y4
   unfold tribunallaw07_SexpOnce.l3
   repeat' first
   | (with_reducible exact ih0 _ _ _ _ _)
   | (with_reducible exact ih1 _ _ _ _ _)
   | (with_reducible exact ih2 _ _ _ _ _)
   | (with_reducible exact ih3 _ _ _ _ _ _)
   | (with_reducible exact ih4 _ _ _ _ _)
   | (with_reducible exact tribunallaw07_alive.mono _)
   | (with_reducible exact LeO.refl _)
   | (with_reducible exact LeO.none _)
   | (with_reducible refine LeO.ite ?_ ?_)
   | (with_reducible refine LeO.bind ?_ (fun _ => ?_))
   | exact ih0 _ _ _ _ _
   | exact ih1 _ _ _ _ _
   | exact ih2 _ _ _ _ _
   | exact ih3 _ _ _ _ _ _
   | exact ih4 _ _ _ _ _
   | exact tribunallaw07_alive.mono _
   | exact LeO.none _
   | refine LeO.ite ?_ ?_
   | refine LeO.bind ?_ (fun _ => ?_)
theorem tribunallaw07_SexpOnce.mono : ∀ a0 k, LeO (tribunallaw07_SexpOnce.f k a0) (tribunallaw07_SexpOnce.f (k + 1) a0) := by
 intro a0 k
 obtain ⟨ih0, ih1, ih2, ih3, ih4⟩ := tribunallaw07_SexpOnce.mono_l k
 unfold tribunallaw07_SexpOnce.f
 repeat' first
  | (with_reducible exact ih0 _ _ _ _ _)
  | (with_reducible exact ih1 _ _ _ _ _)
  | (with_reducible exact ih2 _ _ _ _ _)
  | (with_reducible exact ih3 _ _ _ _ _ _)
  | (with_reducible exact ih4 _ _ _ _ _)
  | (with_reducible exact tribunallaw07_alive.mono _)
  | (with_reducible exact LeO.refl _)
  | (with_reducible exact LeO.none _)
  | (with_reducible refine LeO.ite ?_ ?_)
  | (with_reducible refine LeO.bind ?_ (fun _ => ?_))
  | exact ih0 _ _ _ _ _
  | exact ih1 _ _ _ _ _
  | exact ih2 _ _ _ _ _
  | exact ih3 _ _ _ _ _ _
  | exact ih4 _ _ _ _ _
  | exact tribunallaw07_alive.mono _
  | exact LeO.none _
  | refine LeO.ite ?_ ?_
  | refine LeO.bind ?_ (fun _ => ?_)
set_option maxHeartbeats 8000000 in
set_option maxRecDepth 100000 in
theorem tribunallaw07_SexpOnce.calls (k : Nat) (A0 : Option Addr) (c0 : Nat) (l0 : List (S38)) (r : Bool) (w : World) (hr0 : Kd.C k38 w A0 l0.length l0) (hc0 : l0.length ≤ c0) (h : tribunallaw07_SexpOnce.f k l0 = some r) :
 Calls Tryd.prog 13 #[.slice A0 l0.length c0] w fun e w' => e = .returned (.bool r) ∧ Below w.heap.size w w' := by
 have HR0 := Aside0.mk hr0
 have HC0 := Aside0.mk hc0
 clear hr0 hc0
 have HB := Aside0.mk (Below.refl w.heap.size w)
 have H : ((sexp_Parse.f l0).bind fun bt395 => (if bt395.2.2.2.2 = 0 then (if 0 ≤ (bt395.1.length : Int) then (if ((bt395.1.length : Int) : Int).toNat ≤ 35184372088832 then (tribunallaw07_SexpOnce.l0 k l0 bt395.1 bt395.2.1 (List.replicate ((bt395.1.length : Int) : Int).toNat 0) 0) else (none)) else (none)) else (if (bt395.1.length : Int) = 0 then (if (bt395.2.1.length : Int) = 0 then ((tribunallaw07_alive.f k).bind fun t404 => (some t404)) else (some false)) else (some false)))) = some r := h
 clear h
 replace H := Option.bind_eq_some_iff.mp H
 obtain ⟨⟨t395, t396, t397, t398, t399⟩, A20, H⟩ := H
 replace H : (if t399 = 0 then (if 0 ≤ (t395.length : Int) then (if ((t395.length : Int) : Int).toNat ≤ 35184372088832 then (tribunallaw07_SexpOnce.l0 k l0 t395 t396 (List.replicate ((t395.length : Int) : Int).toNat 0) 0) else (none)) else (none)) else (if (t395.length : Int) = 0 then (if (t396.length : Int) = 0 then ((tribunallaw07_alive.f k).bind fun t404 => (some t404)) else (some false)) else (some false))) = some r := H
 have A2 := Aside0.mk A20
 clear A20
 by_cases c3 : t399 = 0
 ·rw [if_pos c3] at H
  have c3b0 : (t399 == 0) = true := beq_iff_eq.mpr c3
  have c3b1 : (t399 != 0) = false := bne_eq_false_iff_eq.mpr c3
  clear c3
  by_cases c4 : 0 ≤ (t395.length : Int)
  ·rw [if_pos c4] at H
   have c4b0 := eq_true c4
   have c4b1 : decide (0 ≤ (t395.length : Int)) = true := decide_eq_true c4
   clear c4
   by_cases c5 : ((t395.length : Int) : Int).toNat ≤ 35184372088832
   ·rw [if_pos c5] at H
    have c5b0 := eq_true c5
    have c5b1 : decide (((t395.length : Int) : Int).toNat ≤ 35184372088832) = true := decide_eq_true c5
    clear c5
    obtain ⟨y405, hy405⟩ : ∃ y_ : List Int, y_ = (List.replicate ((t395.length : Int) : Int).toNat 0) := ⟨_, rfl⟩
    replace H : (tribunallaw07_SexpOnce.l0 k l0 t395 t396 y405 0) = some r := by first | (rw [hy405]; with_reducible exact H) | (have H2_ := (Option.bind_some _ _).symm.trans H; rw [hy405]; with_reducible exact H2_) | (have H2_ := (Option.bind_some _ _).symm.trans H; with_reducible exact H2_) | with_reducible exact H | (rw [hy405]; exact H) | exact H
    have Ny405 := Aside0.mk hy405
    clear hy405
    have H' := Aside0.mk H
    clear H
    go_enter Tryd.func13, Tryd.ntmps13
    go_wp2_with (first | (go_at_call 23; (with_reducible refine (sexp_Parse.calls _ _ l0 t395 t396 t397 t398 t399 _ ?side1 ?side2 A2.out).mono ?_); (case side1 => repeat (first | exact HR0.out | (with_reducible refine Kd.C_alloc ?_ _) | (with_reducible refine Kd.C_drewN ?_ _) | (with_reducible refine Kd.C_drew ?_))); (case side2 => exact HC0.out); rintro e w6 ⟨v400, v402, rfl, ho0, ho1, hb⟩; have n0_ := Aside0.mk (Kd.S_lower ho0 (below_size (by repeat (first | (with_reducible first | exact HB.out | apply below_alloc | apply pw_below_drewN | apply below_drew1) | exact HB.out)))); have n1_ := Aside0.mk (Kd.R_lower ho1 (below_size (by repeat (first | (with_reducible first | exact HB.out | apply below_alloc | apply pw_below_drewN | apply below_drew1) | exact HB.out)))); have n2_ := Aside0.mk (below_step (by repeat (first | (with_reducible first | exact HB.out | apply below_alloc | apply pw_below_drewN | apply below_drew1) | exact HB.out)) hb); clear HB; have HO401 := n0_; have HO403 := n1_; have HB := n2_; clear n0_ n1_ n2_; (try clear hb); (try clear hb2); (try clear hk); (try clear hi); (try clear ho0); (try clear ho1); obtain ⟨Ao7, co7, eo7⟩ := Kd.S_slice HO401.out; subst eo7) | ((with_reducible refine gate_dst (N := 37) rfl ?_); (try (refine gate_guard (by rfl) ?_; dsimp only)); refine Kd.R_make (Kd.int .i64) _ 3 rfl (N := 37) rfl 45 _ _ rfl (t395.length : Int) rfl rfl Tryd.underlying45 (.int .i64 0) 8 info3 rfl (by decide) (by omega) 0 (ok := fun _ => True) (okp := fun _ => True) rfl (fun _ hk => hk) trivial (of_decide_eq_true (by first | (with_reducible assumption) | assumption)) (Nat.le_trans (Nat.mul_le_mul_right _ (of_decide_eq_true (by first | (with_reducible assumption) | assumption) : (t395.length : Int).toNat ≤ 35184372088832)) (by omega)) (Below.refl _ _) (Nat.le_refl _) ?_; intro v406 w8 ho9 hb hg_ hnew_; clear hg_ hnew_; (first | rw [← Ny405.out] at ho9 | (simp only [Int.reduceToNat] at ho9; rw [← Ny405.out] at ho9)); have n0_ := Aside0.mk (Kd.S_elder' (by (with_reducible repeat (first | apply Kd.S_alloc | apply Kd.S_drewN | apply Kd.S_drew)); exact HO401.out) (Kd.R_base ho9) hb); have n1_ := Aside0.mk (Kd.R_elder' (by (with_reducible repeat (first | apply Kd.R_alloc | apply Kd.R_drewN | apply Kd.R_drew)); exact HO403.out) (Kd.R_base ho9) hb); have n2_ := Aside0.mk (Kd.R_lower (Kd.R_new' ho9 (Kd.R_lt (by (with_reducible repeat (first | apply Kd.R_alloc | apply Kd.R_drewN | apply Kd.R_drew)); exact HO403.out))) (below_size (by repeat (first | (with_reducible first | exact HB.out | apply below_alloc | apply pw_below_drewN | apply below_drew1) | exact HB.out)))); have n3_ := Aside0.mk (below_step (by repeat (first | (with_reducible first | exact HB.out | apply below_alloc | apply pw_below_drewN | apply below_drew1) | exact HB.out)) hb); clear HO401; clear HO403; clear HB; have HO401 := n0_; have HO403 := n1_; have HO407 := n2_; have HB := n3_; clear n0_ n1_ n2_ n3_; clear hb ho9))
    repeat (go_quiet (first | (go_at_call 23; (with_reducible refine (sexp_Parse.calls _ _ l0 t395 t396 t397 t398 t399 _ ?side1 ?side2 A2.out).mono ?_); (case side1 => repeat (first | exact HR0.out | (with_reducible refine Kd.C_alloc ?_ _) | (with_reducible refine Kd.C_drewN ?_ _) | (with_reducible refine Kd.C_drew ?_))); (case side2 => exact HC0.out); rintro e w6 ⟨v400, v402, rfl, ho0, ho1, hb⟩; have n0_ := Aside0.mk (Kd.S_lower ho0 (below_size (by repeat (first | (with_reducible first | exact HB.out | apply below_alloc | apply pw_below_drewN | apply below_drew1) | exact HB.out)))); have n1_ := Aside0.mk (Kd.R_lower ho1 (below_size (by repeat (first | (with_reducible first | exact HB.out | apply below_alloc | apply pw_below_drewN | apply below_drew1) | exact HB.out)))); have n2_ := Aside0.mk (below_step (by repeat (first | (with_reducible first | exact HB.out | apply below_alloc | apply pw_below_drewN | apply below_drew1) | exact HB.out)) hb); clear HB; have HO401 := n0_; have HO403 := n1_; have HB := n2_; clear n0_ n1_ n2_; (try clear hb); (try clear hb2); (try clear hk); (try clear hi); (try clear ho0); (try clear ho1); obtain ⟨Ao7, co7, eo7⟩ := Kd.S_slice HO401.out; subst eo7) | ((with_reducible refine gate_dst (N := 37) rfl ?_); (try (refine gate_guard (by rfl) ?_; dsimp only)); refine Kd.R_make (Kd.int .i64) _ 3 rfl (N := 37) rfl 45 _ _ rfl (t395.length : Int) rfl rfl Tryd.underlying45 (.int .i64 0) 8 info3 rfl (by decide) (by omega) 0 (ok := fun _ => True) (okp := fun _ => True) rfl (fun _ hk => hk) trivial (of_decide_eq_true (by first | (with_reducible assumption) | assumption)) (Nat.le_trans (Nat.mul_le_mul_right _ (of_decide_eq_true (by first | (with_reducible assumption) | assumption) : (t395.length : Int).toNat ≤ 35184372088832)) (by omega)) (Below.refl _ _) (Nat.le_refl _) ?_; intro v406 w8 ho9 hb hg_ hnew_; clear hg_ hnew_; (first | rw [← Ny405.out] at ho9 | (simp only [Int.reduceToNat] at ho9; rw [← Ny405.out] at ho9)); have n0_ := Aside0.mk (Kd.S_elder' (by (with_reducible repeat (first | apply Kd.S_alloc | apply Kd.S_drewN | apply Kd.S_drew)); exact HO401.out) (Kd.R_base ho9) hb); have n1_ := Aside0.mk (Kd.R_elder' (by (with_reducible repeat (first | apply Kd.R_alloc | apply Kd.R_drewN | apply Kd.R_drew)); exact HO403.out) (Kd.R_base ho9) hb); have n2_ := Aside0.mk (Kd.R_lower (Kd.R_new' ho9 (Kd.R_lt (by (with_reducible repeat (first | apply Kd.R_alloc | apply Kd.R_drewN | apply Kd.R_drew)); exact HO403.out))) (below_size (by repeat (first | (with_reducible first | exact HB.out | apply below_alloc | apply pw_below_drewN | apply below_drew1) | exact HB.out)))); have n3_ := Aside0.mk (below_step (by repeat (first | (with_reducible first | exact HB.out | apply below_alloc | apply pw_below_drewN | apply below_drew1) | exact HB.out)) hb); clear HO401; clear HO403; clear HB; have HO401 := n0_; have HO403 := n1_; have HO407 := n2_; have HB := n3_; clear n0_ n1_ n2_ n3_; clear hb ho9)); try go_wp2_with (first | (go_at_call 23; (with_reducible refine (sexp_Parse.calls _ _ l0 t395 t396 t397 t398 t399 _ ?side1 ?side2 A2.out).mono ?_); (case side1 => repeat (first | exact HR0.out | (with_reducible refine Kd.C_alloc ?_ _) | (with_reducible refine Kd.C_drewN ?_ _) | (with_reducible refine Kd.C_drew ?_))); (case side2 => exact HC0.out); rintro e w6 ⟨v400, v402, rfl, ho0, ho1, hb⟩; have n0_ := Aside0.mk (Kd.S_lower ho0 (below_size (by repeat (first | (with_reducible first | exact HB.out | apply below_alloc | apply pw_below_drewN | apply below_drew1) | exact HB.out)))); have n1_ := Aside0.mk (Kd.R_lower ho1 (below_size (by repeat (first | (with_reducible first | exact HB.out | apply below_alloc | apply pw_below_drewN | apply below_drew1) | exact HB.out)))); have n2_ := Aside0.mk (below_step (by repeat (first | (with_reducible first | exact HB.out | apply below_alloc | apply pw_below_drewN | apply below_drew1) | exact HB.out)) hb); clear HB; have HO401 := n0_; have HO403 := n1_; have HB := n2_; clear n0_ n1_ n2_; (try clear hb); (try clear hb2); (try clear hk); (try clear hi); (try clear ho0); (try clear ho1); obtain ⟨Ao7, co7, eo7⟩ := Kd.S_slice HO401.out; subst eo7) | ((with_reducible refine gate_dst (N := 37) rfl ?_); (try (refine gate_guard (by rfl) ?_; dsimp only)); refine Kd.R_make (Kd.int .i64) _ 3 rfl (N := 37) rfl 45 _ _ rfl (t395.length : Int) rfl rfl Tryd.underlying45 (.int .i64 0) 8 info3 rfl (by decide) (by omega) 0 (ok := fun _ => True) (okp := fun _ => True) rfl (fun _ hk => hk) trivial (of_decide_eq_true (by first | (with_reducible assumption) | assumption)) (Nat.le_trans (Nat.mul_le_mul_right _ (of_decide_eq_true (by first | (with_reducible assumption) | assumption) : (t395.length : Int).toNat ≤ 35184372088832)) (by omega)) (Below.refl _ _) (Nat.le_refl _) ?_; intro v406 w8 ho9 hb hg_ hnew_; clear hg_ hnew_; (first | rw [← Ny405.out] at ho9 | (simp only [Int.reduceToNat] at ho9; rw [← Ny405.out] at ho9)); have n0_ := Aside0.mk (Kd.S_elder' (by (with_reducible repeat (first | apply Kd.S_alloc | apply Kd.S_drewN | apply Kd.S_drew)); exact HO401.out) (Kd.R_base ho9) hb); have n1_ := Aside0.mk (Kd.R_elder' (by (with_reducible repeat (first | apply Kd.R_alloc | apply Kd.R_drewN | apply Kd.R_drew)); exact HO403.out) (Kd.R_base ho9) hb); have n2_ := Aside0.mk (Kd.R_lower (Kd.R_new' ho9 (Kd.R_lt (by (with_reducible repeat (first | apply Kd.R_alloc | apply Kd.R_drewN | apply Kd.R_drew)); exact HO403.out))) (below_size (by repeat (first | (with_reducible first | exact HB.out | apply below_alloc | apply pw_below_drewN | apply below_drew1) | exact HB.out)))); have n3_ := Aside0.mk (below_step (by repeat (first | (with_reducible first | exact HB.out | apply below_alloc | apply pw_below_drewN | apply below_drew1) | exact HB.out)) hb); clear HO401; clear HO403; clear HB; have HO401 := n0_; have HO403 := n1_; have HO407 := n2_; have HB := n3_; clear n0_ n1_ n2_ n3_; clear hb ho9)))
    go_loopg [9] k (fun kq v9 w' => ∃ (x8_1 : List Int) (x9_1 : Int), v9 = .int .i64 x9_1 ∧ Aside0 (tribunallaw07_SexpOnce.l0 kq l0 t395 t396 x8_1 x9_1 = some r) ∧ Aside0 (kq ≤ k) ∧ Aside0 (Kd.S k57 57 w' w.heap.size (fun k_ => some k_ ≠ (v402 : Value).ownBlock ∧ some k_ ≠ (v406 : Value).ownBlock) (.slice Ao7 t395.length co7) t395) ∧ Aside0 (Kd.R (Kd.int .i64) 3 w' w.heap.size (fun k_ => some k_ ≠ (v406 : Value).ownBlock) v402 t396) ∧ Aside0 (Kd.R (Kd.int .i64) 3 w' w.heap.size (fun k_ => some k_ ≠ (v402 : Value).ownBlock) v406 x8_1) ∧ Aside0 (Below w.heap.size w w'))
    case atStart => exact ⟨(y405), (0), (by first | rfl | (simp; done) | (simp [*]; done)), H', ⟨Nat.le_refl _⟩, ⟨by (with_reducible repeat (first | apply Kd.S_alloc | apply Kd.S_drewN | apply Kd.S_drew)); exact HO401.out⟩, ⟨by (with_reducible repeat (first | apply Kd.R_alloc | apply Kd.R_drewN | apply Kd.R_drew)); exact Kd.R_mono HO403.out (fun _ hk => hk.2)⟩, ⟨by (with_reducible repeat (first | apply Kd.R_alloc | apply Kd.R_drewN | apply Kd.R_drew)); exact Kd.R_mono HO407.out (fun _ hk => hk.2)⟩, ⟨by repeat (first | (with_reducible first | exact HB.out | apply below_alloc | apply pw_below_drewN | apply below_drew1) | exact HB.out)⟩⟩
    case round =>
     clear H'
     obtain ⟨x8_1, x9_1, rfl, HA, HK1, HO_3, HO_4, HO_8, HB⟩ := hrel
     cases gk with
     | zero => exact absurd HA.out (by simp [tribunallaw07_SexpOnce.l0])
     | succ k1 =>
      have H := HA.out
      clear HA
      simp only [tribunallaw07_SexpOnce.l0] at H
      by_cases c10 : x9_1 < (t396.length : Int)
      ·rw [if_pos c10] at H
       have c10b0 : decide (x9_1 < (t396.length : Int)) = true := decide_eq_true c10
       clear c10
       by_cases c11 : 0 ≤ x9_1
       ·rw [if_pos c11] at H
        have c11b0 : decide (0 ≤ x9_1) = true := decide_eq_true c11
        clear c11
        by_cases c12 : (rd t396 x9_1) < 0
        ·rw [if_pos c12] at H
         have c12b0 : decide ((rd t396 x9_1) < 0) = true := decide_eq_true c12
         clear c12
         obtain rfl := Option.some.inj H
         obtain ⟨Ao13, co13, eo13⟩ := Kd.R_slice HO_4.out
         subst eo13
         have p408 : 0 ≤ (x9_1 : Int) := of_decide_eq_true (by first | (with_reducible assumption) | assumption)
         have q408 : x9_1 < (t396.length : Int) := of_decide_eq_true (by first | (with_reducible assumption) | assumption)
         obtain ⟨ad408, e408, hx408_0⟩ := Kd.at_int (Kd.R_reads' HO_4.out).2.2 x9_1 p408 q408
         cases e408
         replace p408 := eq_true p408
         replace q408 := eq_true q408
         go_wp2
         repeat (go_quiet (fail); try go_wp2)
         go_ret
         exact ⟨by first | rfl | (simp [errW_none, errW_some] <;> rfl) | (simp [*, errW_none, errW_some] <;> rfl), by repeat (first | (with_reducible first | exact HB.out | apply below_alloc | apply pw_below_drewN | apply below_drew1) | exact HB.out)⟩
        ·rw [if_neg c12] at H
         have c12b0 : decide ((rd t396 x9_1) < 0) = false := decide_eq_false c12
         clear c12
         by_cases c14 : (rd t396 x9_1) ≥ (t395.length : Int)
         ·rw [if_pos c14] at H
          have c14b0 : decide ((t395.length : Int) ≤ (rd t396 x9_1)) = true := decide_eq_true c14
          clear c14
          obtain rfl := Option.some.inj H
          obtain ⟨Ao15, co15, eo15⟩ := Kd.R_slice HO_4.out
          subst eo15
          have p408 : 0 ≤ (x9_1 : Int) := of_decide_eq_true (by first | (with_reducible assumption) | assumption)
          have q408 : x9_1 < (t396.length : Int) := of_decide_eq_true (by first | (with_reducible assumption) | assumption)
          obtain ⟨ad408, e408, hx408_0⟩ := Kd.at_int (Kd.R_reads' HO_4.out).2.2 x9_1 p408 q408
          cases e408
          replace p408 := eq_true p408
          replace q408 := eq_true q408
          have p409 : 0 ≤ (x9_1 : Int) := of_decide_eq_true (by first | (with_reducible assumption) | assumption)
          have q409 : x9_1 < (t396.length : Int) := of_decide_eq_true (by first | (with_reducible assumption) | assumption)
          obtain ⟨ad409, e409, hx409_0⟩ := Kd.at_int (Kd.R_reads' HO_4.out).2.2 x9_1 p409 q409
          obtain rfl : ad408 = ad409 := (by injection e409)
          replace p409 := eq_true p409
          replace q409 := eq_true q409
          go_wp2
          repeat (go_quiet (fail); try go_wp2)
          go_ret
          exact ⟨by first | rfl | (simp [errW_none, errW_some] <;> rfl) | (simp [*, errW_none, errW_some] <;> rfl), by repeat (first | (with_reducible first | exact HB.out | apply below_alloc | apply pw_below_drewN | apply below_drew1) | exact HB.out)⟩
         ·rw [if_neg c14] at H
          have c14b0 : decide ((t395.length : Int) ≤ (rd t396 x9_1)) = false := decide_eq_false c14
          clear c14
          by_cases c16 : x9_1 > 0
          ·rw [if_pos c16] at H
           have c16b0 : decide (0 < x9_1) = true := decide_eq_true c16
           clear c16
           obtain ⟨ji17, hji17⟩ : ∃ j_ : Int, (wrap64 (x9_1 - 1)) = j_ := ⟨_, rfl⟩
           replace H : (if 0 ≤ (ji17) then (if (ji17) < (t396.length : Int) then (if (rd t396 x9_1) ≤ (rd t396 (ji17)) then (some false) else (if 0 ≤ (rd t396 x9_1) then (if (rd t396 x9_1) < (x8_1.length : Int) then (tribunallaw07_SexpOnce.l0 k1 l0 t395 t396 (x8_1.set ((rd t396 x9_1) : Int).toNat (wrap64 ((rd x8_1 (rd t396 x9_1)) + 1))) (wrap64 (x9_1 + 1))) else (none)) else (none))) else (none)) else (none)) = some r := by first | (rw [hji17] at H; exact H) | (simp only [hji17] at H ⊢; exact H)
           have hji17w : (IntKind.i64.wrap (x9_1 - 1)) = ji17 := (i64_w _).trans hji17
           by_cases c18 : 0 ≤ (ji17)
           ·rw [if_pos c18] at H
            have c18b0 : decide (0 ≤ (ji17)) = true := decide_eq_true c18
            clear c18
            by_cases c19 : (ji17) < (t396.length : Int)
            ·rw [if_pos c19] at H
             have c19b0 : decide ((ji17) < (t396.length : Int)) = true := decide_eq_true c19
             clear c19
             by_cases c20 : (rd t396 x9_1) ≤ (rd t396 (ji17))
             ·rw [if_pos c20] at H
              have c20b0 : decide ((rd t396 x9_1) ≤ (rd t396 (ji17))) = true := decide_eq_true c20
              clear c20
              obtain rfl := Option.some.inj H
              obtain ⟨Ao21, co21, eo21⟩ := Kd.R_slice HO_4.out
              subst eo21
              have p408 : 0 ≤ (x9_1 : Int) := of_decide_eq_true (by first | (with_reducible assumption) | assumption)
              have q408 : x9_1 < (t396.length : Int) := of_decide_eq_true (by first | (with_reducible assumption) | assumption)
              obtain ⟨ad408, e408, hx408_0⟩ := Kd.at_int (Kd.R_reads' HO_4.out).2.2 x9_1 p408 q408
              cases e408
              replace p408 := eq_true p408
              replace q408 := eq_true q408
              have p409 : 0 ≤ (x9_1 : Int) := of_decide_eq_true (by first | (with_reducible assumption) | assumption)
              have q409 : x9_1 < (t396.length : Int) := of_decide_eq_true (by first | (with_reducible assumption) | assumption)
              obtain ⟨ad409, e409, hx409_0⟩ := Kd.at_int (Kd.R_reads' HO_4.out).2.2 x9_1 p409 q409
              obtain rfl : ad408 = ad409 := (by injection e409)
              replace p409 := eq_true p409
              replace q409 := eq_true q409
              have p410 : 0 ≤ (x9_1 : Int) := of_decide_eq_true (by first | (with_reducible assumption) | assumption)
              have q410 : x9_1 < (t396.length : Int) := of_decide_eq_true (by first | (with_reducible assumption) | assumption)
              obtain ⟨ad410, e410, hx410_0⟩ := Kd.at_int (Kd.R_reads' HO_4.out).2.2 x9_1 p410 q410
              obtain rfl : ad408 = ad410 := (by injection e410)
              replace p410 := eq_true p410
              replace q410 := eq_true q410
              have p411 : 0 ≤ ((ji17) : Int) := of_decide_eq_true (by first | (with_reducible assumption) | assumption)
              have q411 : (ji17) < (t396.length : Int) := of_decide_eq_true (by first | (with_reducible assumption) | assumption)
              obtain ⟨ad411, e411, hx411_0⟩ := Kd.at_int (Kd.R_reads' HO_4.out).2.2 (ji17) p411 q411
              obtain rfl : ad408 = ad411 := (by injection e411)
              replace p411 := eq_true p411
              replace q411 := eq_true q411
              go_wp2
              repeat (go_quiet (fail); try go_wp2)
              go_ret
              exact ⟨by first | rfl | (simp [errW_none, errW_some] <;> rfl) | (simp only [← hji17]; first | rfl | (simp [errW_none, errW_some] <;> rfl)) | (simp [*, errW_none, errW_some] <;> rfl), by repeat (first | (with_reducible first | exact HB.out | apply below_alloc | apply pw_below_drewN | apply below_drew1) | exact HB.out)⟩
             ·rw [if_neg c20] at H
              have c20b0 : decide ((rd t396 x9_1) ≤ (rd t396 (ji17))) = false := decide_eq_false c20
              clear c20
              by_cases c22 : 0 ≤ (rd t396 x9_1)
              ·rw [if_pos c22] at H
               have c22b0 : decide (0 ≤ (rd t396 x9_1)) = true := decide_eq_true c22
               clear c22
               by_cases c23 : (rd t396 x9_1) < (x8_1.length : Int)
               ·rw [if_pos c23] at H
                have c23b0 : decide ((rd t396 x9_1) < (x8_1.length : Int)) = true := decide_eq_true c23
                clear c23
                obtain ⟨y414, hy414⟩ : ∃ y_ : List Int, y_ = (x8_1.set ((rd t396 x9_1) : Int).toNat (wrap64 ((rd x8_1 (rd t396 x9_1)) + 1))) := ⟨_, rfl⟩
                replace H : (tribunallaw07_SexpOnce.l0 k1 l0 t395 t396 y414 (wrap64 (x9_1 + 1))) = some r := by first | (rw [hy414]; with_reducible exact H) | (have H2_ := (Option.bind_some _ _).symm.trans H; rw [hy414]; with_reducible exact H2_) | (have H2_ := (Option.bind_some _ _).symm.trans H; with_reducible exact H2_) | with_reducible exact H | (rw [hy414]; exact H) | exact H
                have Ny414 := Aside0.mk hy414
                clear hy414
                have H' := Aside0.mk H
                clear H
                obtain ⟨Ao25, co25, eo25⟩ := Kd.R_slice HO_4.out
                subst eo25
                have p408 : 0 ≤ (x9_1 : Int) := of_decide_eq_true (by first | (with_reducible assumption) | assumption)
                have q408 : x9_1 < (t396.length : Int) := of_decide_eq_true (by first | (with_reducible assumption) | assumption)
                obtain ⟨ad408, e408, hx408_0⟩ := Kd.at_int (Kd.R_reads' HO_4.out).2.2 x9_1 p408 q408
                cases e408
                replace p408 := eq_true p408
                replace q408 := eq_true q408
                have p409 : 0 ≤ (x9_1 : Int) := of_decide_eq_true (by first | (with_reducible assumption) | assumption)
                have q409 : x9_1 < (t396.length : Int) := of_decide_eq_true (by first | (with_reducible assumption) | assumption)
                obtain ⟨ad409, e409, hx409_0⟩ := Kd.at_int (Kd.R_reads' HO_4.out).2.2 x9_1 p409 q409
                obtain rfl : ad408 = ad409 := (by injection e409)
                replace p409 := eq_true p409
                replace q409 := eq_true q409
                have p410 : 0 ≤ (x9_1 : Int) := of_decide_eq_true (by first | (with_reducible assumption) | assumption)
                have q410 : x9_1 < (t396.length : Int) := of_decide_eq_true (by first | (with_reducible assumption) | assumption)
                obtain ⟨ad410, e410, hx410_0⟩ := Kd.at_int (Kd.R_reads' HO_4.out).2.2 x9_1 p410 q410
                obtain rfl : ad408 = ad410 := (by injection e410)
                replace p410 := eq_true p410
                replace q410 := eq_true q410
                have p411 : 0 ≤ ((ji17) : Int) := of_decide_eq_true (by first | (with_reducible assumption) | assumption)
                have q411 : (ji17) < (t396.length : Int) := of_decide_eq_true (by first | (with_reducible assumption) | assumption)
                obtain ⟨ad411, e411, hx411_0⟩ := Kd.at_int (Kd.R_reads' HO_4.out).2.2 (ji17) p411 q411
                obtain rfl : ad408 = ad411 := (by injection e411)
                replace p411 := eq_true p411
                replace q411 := eq_true q411
                have p412 : 0 ≤ (x9_1 : Int) := of_decide_eq_true (by first | (with_reducible assumption) | assumption)
                have q412 : x9_1 < (t396.length : Int) := of_decide_eq_true (by first | (with_reducible assumption) | assumption)
                obtain ⟨ad412, e412, hx412_0⟩ := Kd.at_int (Kd.R_reads' HO_4.out).2.2 x9_1 p412 q412
                obtain rfl : ad408 = ad412 := (by injection e412)
                replace p412 := eq_true p412
                replace q412 := eq_true q412
                obtain ⟨Ao26, co26, eo26⟩ := Kd.R_slice HO_8.out
                subst eo26
                have p413 : 0 ≤ ((rd t396 x9_1) : Int) := of_decide_eq_true (by first | (with_reducible assumption) | assumption)
                have q413 : (rd t396 x9_1) < (x8_1.length : Int) := of_decide_eq_true (by first | (with_reducible assumption) | assumption)
                obtain ⟨ad413, e413, hx413_0⟩ := Kd.at_int (Kd.R_reads' HO_8.out).2.2 (rd t396 x9_1) p413 q413
                cases e413
                replace p413 := eq_true p413
                replace q413 := eq_true q413
                have p24 : 0 ≤ ((rd t396 x9_1) : Int) := of_decide_eq_true (by first | (with_reducible assumption) | assumption)
                have q24 : ((rd t396 x9_1) : Int) < ((x8_1.length : Int) : Int) := of_decide_eq_true (by first | (with_reducible assumption) | assumption)
                obtain ⟨go24, co24, eo24, gb24, gl24, cl24, HG24⟩ := Kd.R_form HO_8.out (by omega)
                (first | cases eo24 | (injection eo24 with ea_ en_ ec_; (first | subst ea_ | (injection ea_ with ea_; subst ea_)); subst ec_; clear en_))
                have GB24 := Aside0.mk gb24
                have GG24 := Aside0.mk HG24
                clear gb24 gl24 HG24
                (first | simp only [add_plain] at hx413_0 | skip)
                obtain ⟨hx24_0, hf24_0⟩ := Kd.R_celln 0 HO_8.out ((rd t396 x9_1) : Int) p24 q24
                replace p24 := eq_true p24
                replace q24 := eq_true q24
                have HP27 := Kd.R_putg HO_8.out ((rd t396 x9_1) : Int) (wrap64 ((rd x8_1 (rd t396 x9_1)) + 1))
                go_wp2_with (first | ((with_reducible refine gate_store (t := 3) (p := 82) rfl ?_); (try (rw [drewN_self wr]; generalize hq_ : World.drewN wr _ = wr; have n0_ := Aside0.mk (Kd.S_at hq_ HO_3.out); have n1_ := Aside0.mk (Kd.R_at hq_ HO_4.out); have n2_ := Aside0.mk (Kd.R_at hq_ HO_8.out); have n3_ := Aside0.mk (below_at hq_ HB.out); clear hq_ HO_3 HO_4 HO_8 HB; have HO_3 := n0_; have HO_4 := n1_; have HO_8 := n2_; have HB := n3_; clear n0_ n1_ n2_ n3_; (try (have HP27 := Kd.R_putg HO_8.out ((rd t396 x9_1) : Int) (wrap64 ((rd x8_1 (rd t396 x9_1)) + 1)))))); refine store_event (t := 3) (p := 82) (v := ?vo_w28) (w1 := (wr.setCell ⟨go24, ((rd t396 x9_1) : Int).toNat, none⟩ (.int .i64 (wrap64 ((rd x8_1 (rd t396 x9_1)) + 1))))) ?hg ?ho ?hn ?hr ?_; (case ho => rfl); (case hg => rfl); (case hn => rfl); (case hr => first | (go_simp; done) | (go_simp; rfl)); intro w28 hw; have hg : wr.grownBy w28 (some go24) := (by rw [hw]; exact HP27.2); have hp_ : Kd.R (Kd.int .i64) 3 w28 w.heap.size (fun k_ => some k_ ≠ (.slice (some ad408) t396.length co25 : Value).ownBlock) (.slice (some ⟨go24, 0, none⟩) x8_1.length co26) y414 := (by rw [hw, Ny414.out]; exact HP27.1); clear HP27; have n0_ := Aside0.mk (Kd.S_after (v := (.slice (some ⟨go24, 0, none⟩) x8_1.length co26)) (v1 := (.slice (some ⟨go24, 0, none⟩) x8_1.length co26)) (ok := (fun k_ => some k_ ≠ (.slice (some ad408) t396.length co25 : Value).ownBlock)) (by (with_reducible repeat (first | apply Kd.S_alloc | apply Kd.S_drewN | apply Kd.S_drew)); exact HO_3.out) hg (.inl rfl)); have n1_ := Aside0.mk (Kd.R_after (v := (.slice (some ⟨go24, 0, none⟩) x8_1.length co26)) (v1 := (.slice (some ⟨go24, 0, none⟩) x8_1.length co26)) (ok := (fun _ => True)) (by (with_reducible repeat (first | apply Kd.R_alloc | apply Kd.R_drewN | apply Kd.R_drew)); exact Kd.R_mono HO_4.out (fun _ hk => ⟨trivial, hk⟩)) hg (.inl rfl)); have n2_ := Aside0.mk (hp_); have n3_ := Aside0.mk ((by rw [hw]; exact below_set (HB.out) GB24.out : Below w.heap.size w w28)); clear HO_3; clear HO_4; clear HO_8; clear HB; have HO_3 := n0_; have HO_4 := n1_; have HO_8 := n2_; have HB := n3_; clear n0_ n1_ n2_ n3_; clear hg hw hp_))
                repeat (go_quiet (first | ((with_reducible refine gate_store (t := 3) (p := 82) rfl ?_); (try (rw [drewN_self wr]; generalize hq_ : World.drewN wr _ = wr; have n0_ := Aside0.mk (Kd.S_at hq_ HO_3.out); have n1_ := Aside0.mk (Kd.R_at hq_ HO_4.out); have n2_ := Aside0.mk (Kd.R_at hq_ HO_8.out); have n3_ := Aside0.mk (below_at hq_ HB.out); clear hq_ HO_3 HO_4 HO_8 HB; have HO_3 := n0_; have HO_4 := n1_; have HO_8 := n2_; have HB := n3_; clear n0_ n1_ n2_ n3_; (try (have HP27 := Kd.R_putg HO_8.out ((rd t396 x9_1) : Int) (wrap64 ((rd x8_1 (rd t396 x9_1)) + 1)))))); refine store_event (t := 3) (p := 82) (v := ?vo_w28) (w1 := (wr.setCell ⟨go24, ((rd t396 x9_1) : Int).toNat, none⟩ (.int .i64 (wrap64 ((rd x8_1 (rd t396 x9_1)) + 1))))) ?hg ?ho ?hn ?hr ?_; (case ho => rfl); (case hg => rfl); (case hn => rfl); (case hr => first | (go_simp; done) | (go_simp; rfl)); intro w28 hw; have hg : wr.grownBy w28 (some go24) := (by rw [hw]; exact HP27.2); have hp_ : Kd.R (Kd.int .i64) 3 w28 w.heap.size (fun k_ => some k_ ≠ (.slice (some ad408) t396.length co25 : Value).ownBlock) (.slice (some ⟨go24, 0, none⟩) x8_1.length co26) y414 := (by rw [hw, Ny414.out]; exact HP27.1); clear HP27; have n0_ := Aside0.mk (Kd.S_after (v := (.slice (some ⟨go24, 0, none⟩) x8_1.length co26)) (v1 := (.slice (some ⟨go24, 0, none⟩) x8_1.length co26)) (ok := (fun k_ => some k_ ≠ (.slice (some ad408) t396.length co25 : Value).ownBlock)) (by (with_reducible repeat (first | apply Kd.S_alloc | apply Kd.S_drewN | apply Kd.S_drew)); exact HO_3.out) hg (.inl rfl)); have n1_ := Aside0.mk (Kd.R_after (v := (.slice (some ⟨go24, 0, none⟩) x8_1.length co26)) (v1 := (.slice (some ⟨go24, 0, none⟩) x8_1.length co26)) (ok := (fun _ => True)) (by (with_reducible repeat (first | apply Kd.R_alloc | apply Kd.R_drewN | apply Kd.R_drew)); exact Kd.R_mono HO_4.out (fun _ hk => ⟨trivial, hk⟩)) hg (.inl rfl)); have n2_ := Aside0.mk (hp_); have n3_ := Aside0.mk ((by rw [hw]; exact below_set (HB.out) GB24.out : Below w.heap.size w w28)); clear HO_3; clear HO_4; clear HO_8; clear HB; have HO_3 := n0_; have HO_4 := n1_; have HO_8 := n2_; have HB := n3_; clear n0_ n1_ n2_ n3_; clear hg hw hp_)); try go_wp2_with (first | ((with_reducible refine gate_store (t := 3) (p := 82) rfl ?_); (try (rw [drewN_self wr]; generalize hq_ : World.drewN wr _ = wr; have n0_ := Aside0.mk (Kd.S_at hq_ HO_3.out); have n1_ := Aside0.mk (Kd.R_at hq_ HO_4.out); have n2_ := Aside0.mk (Kd.R_at hq_ HO_8.out); have n3_ := Aside0.mk (below_at hq_ HB.out); clear hq_ HO_3 HO_4 HO_8 HB; have HO_3 := n0_; have HO_4 := n1_; have HO_8 := n2_; have HB := n3_; clear n0_ n1_ n2_ n3_; (try (have HP27 := Kd.R_putg HO_8.out ((rd t396 x9_1) : Int) (wrap64 ((rd x8_1 (rd t396 x9_1)) + 1)))))); refine store_event (t := 3) (p := 82) (v := ?vo_w28) (w1 := (wr.setCell ⟨go24, ((rd t396 x9_1) : Int).toNat, none⟩ (.int .i64 (wrap64 ((rd x8_1 (rd t396 x9_1)) + 1))))) ?hg ?ho ?hn ?hr ?_; (case ho => rfl); (case hg => rfl); (case hn => rfl); (case hr => first | (go_simp; done) | (go_simp; rfl)); intro w28 hw; have hg : wr.grownBy w28 (some go24) := (by rw [hw]; exact HP27.2); have hp_ : Kd.R (Kd.int .i64) 3 w28 w.heap.size (fun k_ => some k_ ≠ (.slice (some ad408) t396.length co25 : Value).ownBlock) (.slice (some ⟨go24, 0, none⟩) x8_1.length co26) y414 := (by rw [hw, Ny414.out]; exact HP27.1); clear HP27; have n0_ := Aside0.mk (Kd.S_after (v := (.slice (some ⟨go24, 0, none⟩) x8_1.length co26)) (v1 := (.slice (some ⟨go24, 0, none⟩) x8_1.length co26)) (ok := (fun k_ => some k_ ≠ (.slice (some ad408) t396.length co25 : Value).ownBlock)) (by (with_reducible repeat (first | apply Kd.S_alloc | apply Kd.S_drewN | apply Kd.S_drew)); exact HO_3.out) hg (.inl rfl)); have n1_ := Aside0.mk (Kd.R_after (v := (.slice (some ⟨go24, 0, none⟩) x8_1.length co26)) (v1 := (.slice (some ⟨go24, 0, none⟩) x8_1.length co26)) (ok := (fun _ => True)) (by (with_reducible repeat (first | apply Kd.R_alloc | apply Kd.R_drewN | apply Kd.R_drew)); exact Kd.R_mono HO_4.out (fun _ hk => ⟨trivial, hk⟩)) hg (.inl rfl)); have n2_ := Aside0.mk (hp_); have n3_ := Aside0.mk ((by rw [hw]; exact below_set (HB.out) GB24.out : Below w.heap.size w w28)); clear HO_3; clear HO_4; clear HO_8; clear HB; have HO_3 := n0_; have HO_4 := n1_; have HO_8 := n2_; have HB := n3_; clear n0_ n1_ n2_ n3_; clear hg hw hp_)))
                go_roundg k1
                case measure => have := HK1.out; omega
                case rel => exact ⟨(y414), (wrap64 (x9_1 + 1)), (by first | rfl | (simp; done) | (simp [*]; done)), H', ⟨by have := HK1.out; omega⟩, ⟨Kd.S_far (p := ⟨go24, ((rd t396 x9_1) : Int).toNat, none⟩) (Kd.S_drewN HO_3.out _) (fun k hk e => hk.2 (by have e : k = go24 := e; rw [e]; rfl)) _⟩, ⟨Kd.R_far (p := ⟨go24, ((rd t396 x9_1) : Int).toNat, none⟩) (Kd.R_drewN HO_4.out _) (fun k hk e => hk (by have e : k = go24 := e; rw [e]; rfl)) _⟩, ⟨by have hz := (Kd.R_putg (Kd.R_drewN HO_8.out nq) ((rd t396 x9_1) : Int) (wrap64 ((rd x8_1 (rd t396 x9_1)) + 1))).1; rw [← Ny414.out] at hz; exact hz⟩, ⟨by refine below_set ?_ GB24.out; repeat (first | (with_reducible first | exact HB.out | apply below_alloc | apply pw_below_drewN | apply below_drew1) | exact HB.out)⟩⟩
               ·rw [if_neg c23] at H
                exact absurd H (by simp)
              ·rw [if_neg c22] at H
               exact absurd H (by simp)
            ·rw [if_neg c19] at H
             exact absurd H (by simp)
           ·rw [if_neg c18] at H
            exact absurd H (by simp)
          ·rw [if_neg c16] at H
           have c16b0 : decide (0 < x9_1) = false := decide_eq_false c16
           clear c16
           by_cases c29 : 0 ≤ (rd t396 x9_1)
           ·rw [if_pos c29] at H
            have c29b0 : decide (0 ≤ (rd t396 x9_1)) = true := decide_eq_true c29
            clear c29
            by_cases c30 : (rd t396 x9_1) < (x8_1.length : Int)
            ·rw [if_pos c30] at H
             have c30b0 : decide ((rd t396 x9_1) < (x8_1.length : Int)) = true := decide_eq_true c30
             clear c30
             obtain ⟨y417, hy417⟩ : ∃ y_ : List Int, y_ = (x8_1.set ((rd t396 x9_1) : Int).toNat (wrap64 ((rd x8_1 (rd t396 x9_1)) + 1))) := ⟨_, rfl⟩
             replace H : (tribunallaw07_SexpOnce.l0 k1 l0 t395 t396 y417 (wrap64 (x9_1 + 1))) = some r := by first | (rw [hy417]; with_reducible exact H) | (have H2_ := (Option.bind_some _ _).symm.trans H; rw [hy417]; with_reducible exact H2_) | (have H2_ := (Option.bind_some _ _).symm.trans H; with_reducible exact H2_) | with_reducible exact H | (rw [hy417]; exact H) | exact H
             have Ny417 := Aside0.mk hy417
             clear hy417
             have H' := Aside0.mk H
             clear H
             obtain ⟨Ao32, co32, eo32⟩ := Kd.R_slice HO_4.out
             subst eo32
             have p408 : 0 ≤ (x9_1 : Int) := of_decide_eq_true (by first | (with_reducible assumption) | assumption)
             have q408 : x9_1 < (t396.length : Int) := of_decide_eq_true (by first | (with_reducible assumption) | assumption)
             obtain ⟨ad408, e408, hx408_0⟩ := Kd.at_int (Kd.R_reads' HO_4.out).2.2 x9_1 p408 q408
             cases e408
             replace p408 := eq_true p408
             replace q408 := eq_true q408
             have p409 : 0 ≤ (x9_1 : Int) := of_decide_eq_true (by first | (with_reducible assumption) | assumption)
             have q409 : x9_1 < (t396.length : Int) := of_decide_eq_true (by first | (with_reducible assumption) | assumption)
             obtain ⟨ad409, e409, hx409_0⟩ := Kd.at_int (Kd.R_reads' HO_4.out).2.2 x9_1 p409 q409
             obtain rfl : ad408 = ad409 := (by injection e409)
             replace p409 := eq_true p409
             replace q409 := eq_true q409
             have p415 : 0 ≤ (x9_1 : Int) := of_decide_eq_true (by first | (with_reducible assumption) | assumption)
             have q415 : x9_1 < (t396.length : Int) := of_decide_eq_true (by first | (with_reducible assumption) | assumption)
             obtain ⟨ad415, e415, hx415_0⟩ := Kd.at_int (Kd.R_reads' HO_4.out).2.2 x9_1 p415 q415
             obtain rfl : ad408 = ad415 := (by injection e415)
             replace p415 := eq_true p415
             replace q415 := eq_true q415
             obtain ⟨Ao33, co33, eo33⟩ := Kd.R_slice HO_8.out
             subst eo33
             have p416 : 0 ≤ ((rd t396 x9_1) : Int) := of_decide_eq_true (by first | (with_reducible assumption) | assumption)
             have q416 : (rd t396 x9_1) < (x8_1.length : Int) := of_decide_eq_true (by first | (with_reducible assumption) | assumption)
             obtain ⟨ad416, e416, hx416_0⟩ := Kd.at_int (Kd.R_reads' HO_8.out).2.2 (rd t396 x9_1) p416 q416
             cases e416
             replace p416 := eq_true p416
             replace q416 := eq_true q416
             have p31 : 0 ≤ ((rd t396 x9_1) : Int) := of_decide_eq_true (by first | (with_reducible assumption) | assumption)
             have q31 : ((rd t396 x9_1) : Int) < ((x8_1.length : Int) : Int) := of_decide_eq_true (by first | (with_reducible assumption) | assumption)
             obtain ⟨go31, co31, eo31, gb31, gl31, cl31, HG31⟩ := Kd.R_form HO_8.out (by omega)
             (first | cases eo31 | (injection eo31 with ea_ en_ ec_; (first | subst ea_ | (injection ea_ with ea_; subst ea_)); subst ec_; clear en_))
             have GB31 := Aside0.mk gb31
             have GG31 := Aside0.mk HG31
             clear gb31 gl31 HG31
             (first | simp only [add_plain] at hx416_0 | skip)
             obtain ⟨hx31_0, hf31_0⟩ := Kd.R_celln 0 HO_8.out ((rd t396 x9_1) : Int) p31 q31
             replace p31 := eq_true p31
             replace q31 := eq_true q31
             have HP34 := Kd.R_putg HO_8.out ((rd t396 x9_1) : Int) (wrap64 ((rd x8_1 (rd t396 x9_1)) + 1))
             go_wp2_with (first | ((with_reducible refine gate_store (t := 3) (p := 82) rfl ?_); (try (rw [drewN_self wr]; generalize hq_ : World.drewN wr _ = wr; have n0_ := Aside0.mk (Kd.S_at hq_ HO_3.out); have n1_ := Aside0.mk (Kd.R_at hq_ HO_4.out); have n2_ := Aside0.mk (Kd.R_at hq_ HO_8.out); have n3_ := Aside0.mk (below_at hq_ HB.out); clear hq_ HO_3 HO_4 HO_8 HB; have HO_3 := n0_; have HO_4 := n1_; have HO_8 := n2_; have HB := n3_; clear n0_ n1_ n2_ n3_; (try (have HP34 := Kd.R_putg HO_8.out ((rd t396 x9_1) : Int) (wrap64 ((rd x8_1 (rd t396 x9_1)) + 1)))))); refine store_event (t := 3) (p := 82) (v := ?vo_w35) (w1 := (wr.setCell ⟨go31, ((rd t396 x9_1) : Int).toNat, none⟩ (.int .i64 (wrap64 ((rd x8_1 (rd t396 x9_1)) + 1))))) ?hg ?ho ?hn ?hr ?_; (case ho => rfl); (case hg => rfl); (case hn => rfl); (case hr => first | (go_simp; done) | (go_simp; rfl)); intro w35 hw; have hg : wr.grownBy w35 (some go31) := (by rw [hw]; exact HP34.2); have hp_ : Kd.R (Kd.int .i64) 3 w35 w.heap.size (fun k_ => some k_ ≠ (.slice (some ad408) t396.length co32 : Value).ownBlock) (.slice (some ⟨go31, 0, none⟩) x8_1.length co33) y417 := (by rw [hw, Ny417.out]; exact HP34.1); clear HP34; have n0_ := Aside0.mk (Kd.S_after (v := (.slice (some ⟨go31, 0, none⟩) x8_1.length co33)) (v1 := (.slice (some ⟨go31, 0, none⟩) x8_1.length co33)) (ok := (fun k_ => some k_ ≠ (.slice (some ad408) t396.length co32 : Value).ownBlock)) (by (with_reducible repeat (first | apply Kd.S_alloc | apply Kd.S_drewN | apply Kd.S_drew)); exact HO_3.out) hg (.inl rfl)); have n1_ := Aside0.mk (Kd.R_after (v := (.slice (some ⟨go31, 0, none⟩) x8_1.length co33)) (v1 := (.slice (some ⟨go31, 0, none⟩) x8_1.length co33)) (ok := (fun _ => True)) (by (with_reducible repeat (first | apply Kd.R_alloc | apply Kd.R_drewN | apply Kd.R_drew)); exact Kd.R_mono HO_4.out (fun _ hk => ⟨trivial, hk⟩)) hg (.inl rfl)); have n2_ := Aside0.mk (hp_); have n3_ := Aside0.mk ((by rw [hw]; exact below_set (HB.out) GB31.out : Below w.heap.size w w35)); clear HO_3; clear HO_4; clear HO_8; clear HB; have HO_3 := n0_; have HO_4 := n1_; have HO_8 := n2_; have HB := n3_; clear n0_ n1_ n2_ n3_; clear hg hw hp_))
             repeat (go_quiet (first | ((with_reducible refine gate_store (t := 3) (p := 82) rfl ?_); (try (rw [drewN_self wr]; generalize hq_ : World.drewN wr _ = wr; have n0_ := Aside0.mk (Kd.S_at hq_ HO_3.out); have n1_ := Aside0.mk (Kd.R_at hq_ HO_4.out); have n2_ := Aside0.mk (Kd.R_at hq_ HO_8.out); have n3_ := Aside0.mk (below_at hq_ HB.out); clear hq_ HO_3 HO_4 HO_8 HB; have HO_3 := n0_; have HO_4 := n1_; have HO_8 := n2_; have HB := n3_; clear n0_ n1_ n2_ n3_; (try (have HP34 := Kd.R_putg HO_8.out ((rd t396 x9_1) : Int) (wrap64 ((rd x8_1 (rd t396 x9_1)) + 1)))))); refine store_event (t := 3) (p := 82) (v := ?vo_w35) (w1 := (wr.setCell ⟨go31, ((rd t396 x9_1) : Int).toNat, none⟩ (.int .i64 (wrap64 ((rd x8_1 (rd t396 x9_1)) + 1))))) ?hg ?ho ?hn ?hr ?_; (case ho => rfl); (case hg => rfl); (case hn => rfl); (case hr => first | (go_simp; done) | (go_simp; rfl)); intro w35 hw; have hg : wr.grownBy w35 (some go31) := (by rw [hw]; exact HP34.2); have hp_ : Kd.R (Kd.int .i64) 3 w35 w.heap.size (fun k_ => some k_ ≠ (.slice (some ad408) t396.length co32 : Value).ownBlock) (.slice (some ⟨go31, 0, none⟩) x8_1.length co33) y417 := (by rw [hw, Ny417.out]; exact HP34.1); clear HP34; have n0_ := Aside0.mk (Kd.S_after (v := (.slice (some ⟨go31, 0, none⟩) x8_1.length co33)) (v1 := (.slice (some ⟨go31, 0, none⟩) x8_1.length co33)) (ok := (fun k_ => some k_ ≠ (.slice (some ad408) t396.length co32 : Value).ownBlock)) (by (with_reducible repeat (first | apply Kd.S_alloc | apply Kd.S_drewN | apply Kd.S_drew)); exact HO_3.out) hg (.inl rfl)); have n1_ := Aside0.mk (Kd.R_after (v := (.slice (some ⟨go31, 0, none⟩) x8_1.length co33)) (v1 := (.slice (some ⟨go31, 0, none⟩) x8_1.length co33)) (ok := (fun _ => True)) (by (with_reducible repeat (first | apply Kd.R_alloc | apply Kd.R_drewN | apply Kd.R_drew)); exact Kd.R_mono HO_4.out (fun _ hk => ⟨trivial, hk⟩)) hg (.inl rfl)); have n2_ := Aside0.mk (hp_); have n3_ := Aside0.mk ((by rw [hw]; exact below_set (HB.out) GB31.out : Below w.heap.size w w35)); clear HO_3; clear HO_4; clear HO_8; clear HB; have HO_3 := n0_; have HO_4 := n1_; have HO_8 := n2_; have HB := n3_; clear n0_ n1_ n2_ n3_; clear hg hw hp_)); try go_wp2_with (first | ((with_reducible refine gate_store (t := 3) (p := 82) rfl ?_); (try (rw [drewN_self wr]; generalize hq_ : World.drewN wr _ = wr; have n0_ := Aside0.mk (Kd.S_at hq_ HO_3.out); have n1_ := Aside0.mk (Kd.R_at hq_ HO_4.out); have n2_ := Aside0.mk (Kd.R_at hq_ HO_8.out); have n3_ := Aside0.mk (below_at hq_ HB.out); clear hq_ HO_3 HO_4 HO_8 HB; have HO_3 := n0_; have HO_4 := n1_; have HO_8 := n2_; have HB := n3_; clear n0_ n1_ n2_ n3_; (try (have HP34 := Kd.R_putg HO_8.out ((rd t396 x9_1) : Int) (wrap64 ((rd x8_1 (rd t396 x9_1)) + 1)))))); refine store_event (t := 3) (p := 82) (v := ?vo_w35) (w1 := (wr.setCell ⟨go31, ((rd t396 x9_1) : Int).toNat, none⟩ (.int .i64 (wrap64 ((rd x8_1 (rd t396 x9_1)) + 1))))) ?hg ?ho ?hn ?hr ?_; (case ho => rfl); (case hg => rfl); (case hn => rfl); (case hr => first | (go_simp; done) | (go_simp; rfl)); intro w35 hw; have hg : wr.grownBy w35 (some go31) := (by rw [hw]; exact HP34.2); have hp_ : Kd.R (Kd.int .i64) 3 w35 w.heap.size (fun k_ => some k_ ≠ (.slice (some ad408) t396.length co32 : Value).ownBlock) (.slice (some ⟨go31, 0, none⟩) x8_1.length co33) y417 := (by rw [hw, Ny417.out]; exact HP34.1); clear HP34; have n0_ := Aside0.mk (Kd.S_after (v := (.slice (some ⟨go31, 0, none⟩) x8_1.length co33)) (v1 := (.slice (some ⟨go31, 0, none⟩) x8_1.length co33)) (ok := (fun k_ => some k_ ≠ (.slice (some ad408) t396.length co32 : Value).ownBlock)) (by (with_reducible repeat (first | apply Kd.S_alloc | apply Kd.S_drewN | apply Kd.S_drew)); exact HO_3.out) hg (.inl rfl)); have n1_ := Aside0.mk (Kd.R_after (v := (.slice (some ⟨go31, 0, none⟩) x8_1.length co33)) (v1 := (.slice (some ⟨go31, 0, none⟩) x8_1.length co33)) (ok := (fun _ => True)) (by (with_reducible repeat (first | apply Kd.R_alloc | apply Kd.R_drewN | apply Kd.R_drew)); exact Kd.R_mono HO_4.out (fun _ hk => ⟨trivial, hk⟩)) hg (.inl rfl)); have n2_ := Aside0.mk (hp_); have n3_ := Aside0.mk ((by rw [hw]; exact below_set (HB.out) GB31.out : Below w.heap.size w w35)); clear HO_3; clear HO_4; clear HO_8; clear HB; have HO_3 := n0_; have HO_4 := n1_; have HO_8 := n2_; have HB := n3_; clear n0_ n1_ n2_ n3_; clear hg hw hp_)))
             go_roundg k1
             case measure => have := HK1.out; omega
             case rel => exact ⟨(y417), (wrap64 (x9_1 + 1)), (by first | rfl | (simp; done) | (simp [*]; done)), H', ⟨by have := HK1.out; omega⟩, ⟨Kd.S_far (p := ⟨go31, ((rd t396 x9_1) : Int).toNat, none⟩) (Kd.S_drewN HO_3.out _) (fun k hk e => hk.2 (by have e : k = go31 := e; rw [e]; rfl)) _⟩, ⟨Kd.R_far (p := ⟨go31, ((rd t396 x9_1) : Int).toNat, none⟩) (Kd.R_drewN HO_4.out _) (fun k hk e => hk (by have e : k = go31 := e; rw [e]; rfl)) _⟩, ⟨by have hz := (Kd.R_putg (Kd.R_drewN HO_8.out nq) ((rd t396 x9_1) : Int) (wrap64 ((rd x8_1 (rd t396 x9_1)) + 1))).1; rw [← Ny417.out] at hz; exact hz⟩, ⟨by refine below_set ?_ GB31.out; repeat (first | (with_reducible first | exact HB.out | apply below_alloc | apply pw_below_drewN | apply below_drew1) | exact HB.out)⟩⟩
            ·rw [if_neg c30] at H
             exact absurd H (by simp)
           ·rw [if_neg c29] at H
            exact absurd H (by simp)
       ·rw [if_neg c11] at H
        exact absurd H (by simp)
      ·rw [if_neg c10] at H
       have c10b0 : decide (x9_1 < (t396.length : Int)) = false := decide_eq_false c10
       clear c10
       have H' := Aside0.mk H
       clear H
       obtain ⟨Ao36, co36, eo36⟩ := Kd.R_slice HO_4.out
       subst eo36
       go_wp2
       repeat (go_quiet (fail); try go_wp2)
       go_loopg [10, 11] k1 (fun kq v10 v11 w' => ∃ (x8_2 : List Int) (x10_2 : Int) (x11_2 : Int), v10 = .int .i64 x10_2 ∧ v11 = .int .i64 x11_2 ∧ Aside0 (tribunallaw07_SexpOnce.l1 kq l0 t395 x8_2 x10_2 x11_2 = some r) ∧ Aside0 (kq ≤ k1) ∧ Aside0 (Kd.S k57 57 w' w.heap.size (fun k_ => some k_ ≠ (v406 : Value).ownBlock) (.slice Ao7 t395.length co7) t395) ∧ Aside0 (Kd.R (Kd.int .i64) 3 w' w.heap.size (fun _ => True) v406 x8_2) ∧ Aside0 (Below w.heap.size w w'))
       case atStart => exact ⟨(x8_1), (0), (0), (by first | rfl | (simp; done) | (simp [*]; done)), (by first | rfl | (simp; done) | (simp [*]; done)), H', ⟨Nat.le_refl _⟩, ⟨by (with_reducible repeat (first | apply Kd.S_alloc | apply Kd.S_drewN | apply Kd.S_drew)); exact Kd.S_mono HO_3.out (fun _ hk => hk.2)⟩, ⟨by (with_reducible repeat (first | apply Kd.R_alloc | apply Kd.R_drewN | apply Kd.R_drew)); exact Kd.R_mono HO_8.out (fun _ hk => trivial)⟩, ⟨by repeat (first | (with_reducible first | exact HB.out | apply below_alloc | apply pw_below_drewN | apply below_drew1) | exact HB.out)⟩⟩
       case round =>
        clear H'
        obtain ⟨x8_2, x10_2, x11_2, rfl, rfl, HA, HK2, HO_3, HO_8, HB⟩ := hrel
        cases gk with
        | zero => exact absurd HA.out (by simp [tribunallaw07_SexpOnce.l1])
        | succ k2 =>
         have H := HA.out
         clear HA
         simp only [tribunallaw07_SexpOnce.l1] at H
         by_cases c37 : x11_2 < (t395.length : Int)
         ·rw [if_pos c37] at H
          have c37b0 : decide (x11_2 < (t395.length : Int)) = true := decide_eq_true c37
          clear c37
          by_cases c38 : 0 ≤ x11_2
          ·rw [if_pos c38] at H
           have c38b0 : decide (0 ≤ x11_2) = true := decide_eq_true c38
           clear c38
           have HC39 := Aside0.mk H
           clear H
           have p418 : 0 ≤ (x11_2 : Int) := of_decide_eq_true (by first | (with_reducible assumption) | assumption)
           have q418 : x11_2 < (t395.length : Int) := of_decide_eq_true (by first | (with_reducible assumption) | assumption)
           obtain ⟨ad418, A418_6, c418_6, e418, hx418_0, hx418_1, hx418_2, hx418_3, hx418_4, hx418_5, hx418_6, hl418_6, hi418_6⟩ := at_T57 (Kd.S_reads' HO_3.out).2.2 x11_2 p418 q418
           cases e418
           obtain ⟨ce418, hce418, hMe418, hcc418⟩ := Kd.S_get HO_3.out z57 x11_2 p418 (by first | exact q418 | exact of_decide_eq_true (by first | (with_reducible assumption) | assumption) | (have e_ := (Kd.S_reads' HO_3.out).1; omega))
           obtain ⟨ve418_6, rfl, ge418_6⟩ := k57_openM hMe418
           have hv418_6 := hcc418 6 _ rfl
           rw [add_field _ _ 6 (by omega)] at hv418_6
           replace hv418_6 := Option.some.inj (hv418_6.symm.trans hx418_6)
           rw [hv418_6] at ge418_6
           have HL418_6 := Aside0.mk (show Kd.R (Kd.int .i64) 3 _ _ _ _ ((rd_T57 t395 x11_2).f2) from ge418_6)
           clear hv418_6 ge418_6
           clear hcc418 hce418
           have HR418_6 := Aside0.mk hi418_6
           have HC418_6 := Aside0.mk hl418_6
           clear hi418_6 hl418_6
           replace p418 := eq_true p418
           replace q418 := eq_true q418
           go_upto_if 94 with (fail)
           repeat (go_quiet (fail); go_upto_if 94 with (fail))
           go_cut [10] (fun v10 wc => ∃ (kq : Nat) (x10_38 : Int), v10 = .int .i64 x10_38 ∧ Aside0 (tribunallaw07_SexpOnce.j2 kq l0 t395 x8_2 x10_38 x11_2 = some r) ∧ Aside0 (kq ≤ k2) ∧ Aside0 (Kd.S k57 57 wc w.heap.size (fun k_ => some k_ ≠ (v406 : Value).ownBlock) (.slice (some ad418) t395.length co7) t395) ∧ Aside0 (Kd.R (Kd.int .i64) 3 wc w.heap.size (fun _ => True) v406 x8_2) ∧ Aside0 (Kd.C (Kd.int .i64) wc A418_6 ((rd_T57 t395 x11_2).f2).length ((rd_T57 t395 x11_2).f2)) ∧ Aside0 (Below w.heap.size w wc))
           case first =>
            have H := HC39.out
            clear HC39
            by_cases c40 : ((rd_T57 t395 x11_2).f0) = 1
            ·rw [if_pos c40] at H
             have c40b0 : (((rd_T57 t395 x11_2).f0) == 1) = true := beq_iff_eq.mpr c40
             have c40b1 : (((rd_T57 t395 x11_2).f0) != 1) = false := bne_eq_false_iff_eq.mpr c40
             clear c40
             (first | rw [c40b0] | (simp only [i64_w, i32_w]; rw [c40b0]) | skip)
             have H' := Aside0.mk H
             clear H
             go_wp2
             repeat (go_quiet (fail); try go_wp2)
             go_meet
             case rel => exact ⟨_, (wrap64 (x10_2 + 1)), (by first | rfl | (simp; done) | (simp [*]; done)), H', ⟨by have := HK1.out; have := HK2.out; first | omega | exact Nat.le_refl _⟩, ⟨by (with_reducible repeat (first | apply Kd.S_alloc | apply Kd.S_drewN | apply Kd.S_drew)); exact HO_3.out⟩, ⟨by (with_reducible repeat (first | apply Kd.R_alloc | apply Kd.R_drewN | apply Kd.R_drew)); exact HO_8.out⟩, ⟨by repeat (first | (with_reducible exact HR418_6.out) | (with_reducible refine Kd.C_alloc ?_ _) | (with_reducible refine Kd.C_drewN ?_ _) | (with_reducible refine Kd.C_drew ?_) | exact HR418_6.out)⟩, ⟨by repeat (first | (with_reducible first | exact HB.out | apply below_alloc | apply pw_below_drewN | apply below_drew1) | exact HB.out)⟩⟩
            ·rw [if_neg c40] at H
             have c40b0 : (((rd_T57 t395 x11_2).f0) == 1) = false := beq_eq_false_iff_ne.mpr c40
             have c40b1 : (((rd_T57 t395 x11_2).f0) != 1) = true := bne_iff_ne.mpr c40
             (first | rw [c40b0] | (simp only [i64_w, i32_w]; rw [c40b0]) | skip)
             have H' := Aside0.mk H
             clear H
             go_wp2
             repeat (go_quiet (fail); try go_wp2)
             go_meet
             case rel => exact ⟨_, (x10_2), (by first | rfl | (simp; done) | (simp [*]; done)), H', ⟨by have := HK1.out; have := HK2.out; first | omega | exact Nat.le_refl _⟩, ⟨by (with_reducible repeat (first | apply Kd.S_alloc | apply Kd.S_drewN | apply Kd.S_drew)); exact HO_3.out⟩, ⟨by (with_reducible repeat (first | apply Kd.R_alloc | apply Kd.R_drewN | apply Kd.R_drew)); exact HO_8.out⟩, ⟨by repeat (first | (with_reducible exact HR418_6.out) | (with_reducible refine Kd.C_alloc ?_ _) | (with_reducible refine Kd.C_drewN ?_ _) | (with_reducible refine Kd.C_drew ?_) | exact HR418_6.out)⟩, ⟨by repeat (first | (with_reducible first | exact HB.out | apply below_alloc | apply pw_below_drewN | apply below_drew1) | exact HB.out)⟩⟩
           case rest =>
            clear HC39
            obtain ⟨kq, x10_38, rfl, HA, HJ38, HO_3, HO_8, HR418_6, HB⟩ := hcut
            cases kq with
            | zero => exact absurd HA.out (by simp [tribunallaw07_SexpOnce.j2])
            | succ kj38 =>
             have H := HA.out
             clear HA
             simp only [tribunallaw07_SexpOnce.j2] at H
             have H' := Aside0.mk H
             clear H
             go_wp2
             repeat (go_quiet (fail); try go_wp2)
             go_loopg [12] kj38 (fun kq v12 w' => ∃ (x8_4 : List Int) (x12_4 : Int), v12 = .int .i64 x12_4 ∧ Aside0 (tribunallaw07_SexpOnce.l2 kq l0 t395 x8_4 x10_38 x11_2 x12_4 = some r) ∧ Aside0 (kq ≤ kj38) ∧ Aside0 (Kd.S k57 57 w' w.heap.size (fun k_ => some k_ ≠ (v406 : Value).ownBlock) (.slice (some ad418) t395.length co7) t395) ∧ Aside0 (Kd.R (Kd.int .i64) 3 w' w.heap.size (fun _ => True) v406 x8_4) ∧ Aside0 (Below w.heap.size w w'))
             case atStart => exact ⟨(x8_2), (0), (by first | rfl | (simp; done) | (simp [*]; done)), H', ⟨Nat.le_refl _⟩, ⟨by (with_reducible repeat (first | apply Kd.S_alloc | apply Kd.S_drewN | apply Kd.S_drew)); exact HO_3.out⟩, ⟨by (with_reducible repeat (first | apply Kd.R_alloc | apply Kd.R_drewN | apply Kd.R_drew)); exact HO_8.out⟩, ⟨by repeat (first | (with_reducible first | exact HB.out | apply below_alloc | apply pw_below_drewN | apply below_drew1) | exact HB.out)⟩⟩
             case round =>
              clear H'
              obtain ⟨x8_4, x12_4, rfl, HA, HK4, HO_3, HO_8, HB⟩ := hrel
              cases gk with
              | zero => exact absurd HA.out (by simp [tribunallaw07_SexpOnce.l2])
              | succ k4 =>
               have H := HA.out
               clear HA
               simp only [tribunallaw07_SexpOnce.l2] at H
               by_cases c41 : 0 ≤ x11_2
               ·rw [if_pos c41] at H
                have c41b0 : decide (0 ≤ x11_2) = true := decide_eq_true c41
                clear c41
                by_cases c42 : x11_2 < (t395.length : Int)
                ·rw [if_pos c42] at H
                 have c42b0 : decide (x11_2 < (t395.length : Int)) = true := decide_eq_true c42
                 clear c42
                 by_cases c43 : x12_4 < (((rd_T57 t395 x11_2).f2).length : Int)
                 ·rw [if_pos c43] at H
                  have c43b0 : decide (x12_4 < (((rd_T57 t395 x11_2).f2).length : Int)) = true := decide_eq_true c43
                  clear c43
                  by_cases c44 : 0 ≤ x12_4
                  ·rw [if_pos c44] at H
                   have c44b0 : decide (0 ≤ x12_4) = true := decide_eq_true c44
                   clear c44
                   by_cases c45 : (rd ((rd_T57 t395 x11_2).f2) x12_4) < 0
                   ·rw [if_pos c45] at H
                    have c45b0 : decide ((rd ((rd_T57 t395 x11_2).f2) x12_4) < 0) = true := decide_eq_true c45
                    clear c45
                    obtain rfl := Option.some.inj H
                    have p419 : 0 ≤ (x11_2 : Int) := of_decide_eq_true (by first | (with_reducible assumption) | assumption)
                    have q419 : x11_2 < (t395.length : Int) := of_decide_eq_true (by first | (with_reducible assumption) | assumption)
                    obtain ⟨ad419, A419_6, c419_6, e419, hx419_0, hx419_1, hx419_2, hx419_3, hx419_4, hx419_5, hx419_6, hl419_6, hi419_6⟩ := at_T57 (Kd.S_reads' HO_3.out).2.2 x11_2 p419 q419
                    obtain rfl : ad418 = ad419 := (by injection e419)
                    obtain ⟨ce419, hce419, hMe419, hcc419⟩ := Kd.S_get HO_3.out z57 x11_2 p419 (by first | exact q419 | exact of_decide_eq_true (by first | (with_reducible assumption) | assumption) | (have e_ := (Kd.S_reads' HO_3.out).1; omega))
                    obtain ⟨ve419_6, rfl, ge419_6⟩ := k57_openM hMe419
                    have hv419_6 := hcc419 6 _ rfl
                    rw [add_field _ _ 6 (by omega)] at hv419_6
                    replace hv419_6 := Option.some.inj (hv419_6.symm.trans hx419_6)
                    rw [hv419_6] at ge419_6
                    have HL419_6 := Aside0.mk (show Kd.R (Kd.int .i64) 3 _ _ _ _ ((rd_T57 t395 x11_2).f2) from ge419_6)
                    clear hv419_6 ge419_6
                    clear hcc419 hce419
                    have HR419_6 := Aside0.mk hi419_6
                    have HC419_6 := Aside0.mk hl419_6
                    clear hi419_6 hl419_6
                    replace p419 := eq_true p419
                    replace q419 := eq_true q419
                    have p420 : 0 ≤ (x11_2 : Int) := of_decide_eq_true (by first | (with_reducible assumption) | assumption)
                    have q420 : x11_2 < (t395.length : Int) := of_decide_eq_true (by first | (with_reducible assumption) | assumption)
                    obtain ⟨ad420, A420_6, c420_6, e420, hx420_0, hx420_1, hx420_2, hx420_3, hx420_4, hx420_5, hx420_6, hl420_6, hi420_6⟩ := at_T57 (Kd.S_reads' HO_3.out).2.2 x11_2 p420 q420
                    obtain rfl : ad418 = ad420 := (by injection e420)
                    obtain ⟨ce420, hce420, hMe420, hcc420⟩ := Kd.S_get HO_3.out z57 x11_2 p420 (by first | exact q420 | exact of_decide_eq_true (by first | (with_reducible assumption) | assumption) | (have e_ := (Kd.S_reads' HO_3.out).1; omega))
                    obtain ⟨ve420_6, rfl, ge420_6⟩ := k57_openM hMe420
                    have hv420_6 := hcc420 6 _ rfl
                    rw [add_field _ _ 6 (by omega)] at hv420_6
                    replace hv420_6 := Option.some.inj (hv420_6.symm.trans hx420_6)
                    rw [hv420_6] at ge420_6
                    have HL420_6 := Aside0.mk (show Kd.R (Kd.int .i64) 3 _ _ _ _ ((rd_T57 t395 x11_2).f2) from ge420_6)
                    clear hv420_6 ge420_6
                    clear hcc420 hce420
                    have HR420_6 := Aside0.mk hi420_6
                    have HC420_6 := Aside0.mk hl420_6
                    clear hi420_6 hl420_6
                    replace p420 := eq_true p420
                    replace q420 := eq_true q420
                    have ea_ := Option.some.inj (hx419_6.symm.trans hx420_6)
                    injection ea_ with ea_ en_ ec_
                    subst ea_
                    subst ec_
                    clear en_
                    have p421 : 0 ≤ (x12_4 : Int) := of_decide_eq_true (by first | (with_reducible assumption) | assumption)
                    have q421 : x12_4 < (((rd_T57 t395 x11_2).f2).length : Int) := of_decide_eq_true (by first | (with_reducible assumption) | assumption)
                    obtain ⟨ad421, e421, hx421_0⟩ := Kd.at_int (by repeat (first | (with_reducible exact HR420_6.out) | (with_reducible refine Kd.C_alloc ?_ _) | (with_reducible refine Kd.C_drewN ?_ _) | (with_reducible refine Kd.C_drew ?_) | exact HR420_6.out)) x12_4 p421 q421
                    cases e421
                    replace p421 := eq_true p421
                    replace q421 := eq_true q421
                    go_wp2
                    repeat (go_quiet (fail); try go_wp2)
                    go_ret
                    exact ⟨by first | rfl | (simp [errW_none, errW_some] <;> rfl) | (simp [*, errW_none, errW_some] <;> rfl), by repeat (first | (with_reducible first | exact HB.out | apply below_alloc | apply pw_below_drewN | apply below_drew1) | exact HB.out)⟩
                   ·rw [if_neg c45] at H
                    have c45b0 : decide ((rd ((rd_T57 t395 x11_2).f2) x12_4) < 0) = false := decide_eq_false c45
                    clear c45
                    by_cases c46 : (rd ((rd_T57 t395 x11_2).f2) x12_4) ≥ x11_2
                    ·rw [if_pos c46] at H
                     have c46b0 : decide (x11_2 ≤ (rd ((rd_T57 t395 x11_2).f2) x12_4)) = true := decide_eq_true c46
                     clear c46
                     obtain rfl := Option.some.inj H
                     have p419 : 0 ≤ (x11_2 : Int) := of_decide_eq_true (by first | (with_reducible assumption) | assumption)
                     have q419 : x11_2 < (t395.length : Int) := of_decide_eq_true (by first | (with_reducible assumption) | assumption)
                     obtain ⟨ad419, A419_6, c419_6, e419, hx419_0, hx419_1, hx419_2, hx419_3, hx419_4, hx419_5, hx419_6, hl419_6, hi419_6⟩ := at_T57 (Kd.S_reads' HO_3.out).2.2 x11_2 p419 q419
                     obtain rfl : ad418 = ad419 := (by injection e419)
                     obtain ⟨ce419, hce419, hMe419, hcc419⟩ := Kd.S_get HO_3.out z57 x11_2 p419 (by first | exact q419 | exact of_decide_eq_true (by first | (with_reducible assumption) | assumption) | (have e_ := (Kd.S_reads' HO_3.out).1; omega))
                     obtain ⟨ve419_6, rfl, ge419_6⟩ := k57_openM hMe419
                     have hv419_6 := hcc419 6 _ rfl
                     rw [add_field _ _ 6 (by omega)] at hv419_6
                     replace hv419_6 := Option.some.inj (hv419_6.symm.trans hx419_6)
                     rw [hv419_6] at ge419_6
                     have HL419_6 := Aside0.mk (show Kd.R (Kd.int .i64) 3 _ _ _ _ ((rd_T57 t395 x11_2).f2) from ge419_6)
                     clear hv419_6 ge419_6
                     clear hcc419 hce419
                     have HR419_6 := Aside0.mk hi419_6
                     have HC419_6 := Aside0.mk hl419_6
                     clear hi419_6 hl419_6
                     replace p419 := eq_true p419
                     replace q419 := eq_true q419
                     have p420 : 0 ≤ (x11_2 : Int) := of_decide_eq_true (by first | (with_reducible assumption) | assumption)
                     have q420 : x11_2 < (t395.length : Int) := of_decide_eq_true (by first | (with_reducible assumption) | assumption)
                     obtain ⟨ad420, A420_6, c420_6, e420, hx420_0, hx420_1, hx420_2, hx420_3, hx420_4, hx420_5, hx420_6, hl420_6, hi420_6⟩ := at_T57 (Kd.S_reads' HO_3.out).2.2 x11_2 p420 q420
                     obtain rfl : ad418 = ad420 := (by injection e420)
                     obtain ⟨ce420, hce420, hMe420, hcc420⟩ := Kd.S_get HO_3.out z57 x11_2 p420 (by first | exact q420 | exact of_decide_eq_true (by first | (with_reducible assumption) | assumption) | (have e_ := (Kd.S_reads' HO_3.out).1; omega))
                     obtain ⟨ve420_6, rfl, ge420_6⟩ := k57_openM hMe420
                     have hv420_6 := hcc420 6 _ rfl
                     rw [add_field _ _ 6 (by omega)] at hv420_6
                     replace hv420_6 := Option.some.inj (hv420_6.symm.trans hx420_6)
                     rw [hv420_6] at ge420_6
                     have HL420_6 := Aside0.mk (show Kd.R (Kd.int .i64) 3 _ _ _ _ ((rd_T57 t395 x11_2).f2) from ge420_6)
                     clear hv420_6 ge420_6
                     clear hcc420 hce420
                     have HR420_6 := Aside0.mk hi420_6
                     have HC420_6 := Aside0.mk hl420_6
                     clear hi420_6 hl420_6
                     replace p420 := eq_true p420
                     replace q420 := eq_true q420
                     have ea_ := Option.some.inj (hx419_6.symm.trans hx420_6)
                     injection ea_ with ea_ en_ ec_
                     subst ea_
                     subst ec_
                     clear en_
                     have p421 : 0 ≤ (x12_4 : Int) := of_decide_eq_true (by first | (with_reducible assumption) | assumption)
                     have q421 : x12_4 < (((rd_T57 t395 x11_2).f2).length : Int) := of_decide_eq_true (by first | (with_reducible assumption) | assumption)
                     obtain ⟨ad421, e421, hx421_0⟩ := Kd.at_int (by repeat (first | (with_reducible exact HR420_6.out) | (with_reducible refine Kd.C_alloc ?_ _) | (with_reducible refine Kd.C_drewN ?_ _) | (with_reducible refine Kd.C_drew ?_) | exact HR420_6.out)) x12_4 p421 q421
                     cases e421
                     replace p421 := eq_true p421
                     replace q421 := eq_true q421
                     have p422 : 0 ≤ (x11_2 : Int) := of_decide_eq_true (by first | (with_reducible assumption) | assumption)
                     have q422 : x11_2 < (t395.length : Int) := of_decide_eq_true (by first | (with_reducible assumption) | assumption)
                     obtain ⟨ad422, A422_6, c422_6, e422, hx422_0, hx422_1, hx422_2, hx422_3, hx422_4, hx422_5, hx422_6, hl422_6, hi422_6⟩ := at_T57 (Kd.S_reads' HO_3.out).2.2 x11_2 p422 q422
                     obtain rfl : ad418 = ad422 := (by injection e422)
                     obtain ⟨ce422, hce422, hMe422, hcc422⟩ := Kd.S_get HO_3.out z57 x11_2 p422 (by first | exact q422 | exact of_decide_eq_true (by first | (with_reducible assumption) | assumption) | (have e_ := (Kd.S_reads' HO_3.out).1; omega))
                     obtain ⟨ve422_6, rfl, ge422_6⟩ := k57_openM hMe422
                     have hv422_6 := hcc422 6 _ rfl
                     rw [add_field _ _ 6 (by omega)] at hv422_6
                     replace hv422_6 := Option.some.inj (hv422_6.symm.trans hx422_6)
                     rw [hv422_6] at ge422_6
                     have HL422_6 := Aside0.mk (show Kd.R (Kd.int .i64) 3 _ _ _ _ ((rd_T57 t395 x11_2).f2) from ge422_6)
                     clear hv422_6 ge422_6
                     clear hcc422 hce422
                     have HR422_6 := Aside0.mk hi422_6
                     have HC422_6 := Aside0.mk hl422_6
                     clear hi422_6 hl422_6
                     replace p422 := eq_true p422
                     replace q422 := eq_true q422
                     have ea_ := Option.some.inj (hx419_6.symm.trans hx422_6)
                     injection ea_ with ea_ en_ ec_
                     subst ea_
                     subst ec_
                     clear en_
                     have p423 : 0 ≤ (x12_4 : Int) := of_decide_eq_true (by first | (with_reducible assumption) | assumption)
                     have q423 : x12_4 < (((rd_T57 t395 x11_2).f2).length : Int) := of_decide_eq_true (by first | (with_reducible assumption) | assumption)
                     obtain ⟨ad423, e423, hx423_0⟩ := Kd.at_int (by repeat (first | (with_reducible exact HR422_6.out) | (with_reducible refine Kd.C_alloc ?_ _) | (with_reducible refine Kd.C_drewN ?_ _) | (with_reducible refine Kd.C_drew ?_) | exact HR422_6.out)) x12_4 p423 q423
                     cases e423
                     replace p423 := eq_true p423
                     replace q423 := eq_true q423
                     go_wp2
                     repeat (go_quiet (fail); try go_wp2)
                     go_ret
                     exact ⟨by first | rfl | (simp [errW_none, errW_some] <;> rfl) | (simp [*, errW_none, errW_some] <;> rfl), by repeat (first | (with_reducible first | exact HB.out | apply below_alloc | apply pw_below_drewN | apply below_drew1) | exact HB.out)⟩
                    ·rw [if_neg c46] at H
                     have c46b0 : decide (x11_2 ≤ (rd ((rd_T57 t395 x11_2).f2) x12_4)) = false := decide_eq_false c46
                     clear c46
                     by_cases c47 : 0 ≤ (rd ((rd_T57 t395 x11_2).f2) x12_4)
                     ·rw [if_pos c47] at H
                      have c47b0 : decide (0 ≤ (rd ((rd_T57 t395 x11_2).f2) x12_4)) = true := decide_eq_true c47
                      clear c47
                      by_cases c48 : (rd ((rd_T57 t395 x11_2).f2) x12_4) < (x8_4.length : Int)
                      ·rw [if_pos c48] at H
                       have c48b0 : decide ((rd ((rd_T57 t395 x11_2).f2) x12_4) < (x8_4.length : Int)) = true := decide_eq_true c48
                       clear c48
                       obtain ⟨y427, hy427⟩ : ∃ y_ : List Int, y_ = (x8_4.set ((rd ((rd_T57 t395 x11_2).f2) x12_4) : Int).toNat (wrap64 ((rd x8_4 (rd ((rd_T57 t395 x11_2).f2) x12_4)) + 1))) := ⟨_, rfl⟩
                       replace H : (tribunallaw07_SexpOnce.l2 k4 l0 t395 y427 x10_38 x11_2 (wrap64 (x12_4 + 1))) = some r := by first | (rw [hy427]; with_reducible exact H) | (have H2_ := (Option.bind_some _ _).symm.trans H; rw [hy427]; with_reducible exact H2_) | (have H2_ := (Option.bind_some _ _).symm.trans H; with_reducible exact H2_) | with_reducible exact H | (rw [hy427]; exact H) | exact H
                       have Ny427 := Aside0.mk hy427
                       clear hy427
                       have H' := Aside0.mk H
                       clear H
                       have p419 : 0 ≤ (x11_2 : Int) := of_decide_eq_true (by first | (with_reducible assumption) | assumption)
                       have q419 : x11_2 < (t395.length : Int) := of_decide_eq_true (by first | (with_reducible assumption) | assumption)
                       obtain ⟨ad419, A419_6, c419_6, e419, hx419_0, hx419_1, hx419_2, hx419_3, hx419_4, hx419_5, hx419_6, hl419_6, hi419_6⟩ := at_T57 (Kd.S_reads' HO_3.out).2.2 x11_2 p419 q419
                       obtain rfl : ad418 = ad419 := (by injection e419)
                       obtain ⟨ce419, hce419, hMe419, hcc419⟩ := Kd.S_get HO_3.out z57 x11_2 p419 (by first | exact q419 | exact of_decide_eq_true (by first | (with_reducible assumption) | assumption) | (have e_ := (Kd.S_reads' HO_3.out).1; omega))
                       obtain ⟨ve419_6, rfl, ge419_6⟩ := k57_openM hMe419
                       have hv419_6 := hcc419 6 _ rfl
                       rw [add_field _ _ 6 (by omega)] at hv419_6
                       replace hv419_6 := Option.some.inj (hv419_6.symm.trans hx419_6)
                       rw [hv419_6] at ge419_6
                       have HL419_6 := Aside0.mk (show Kd.R (Kd.int .i64) 3 _ _ _ _ ((rd_T57 t395 x11_2).f2) from ge419_6)
                       clear hv419_6 ge419_6
                       clear hcc419 hce419
                       have HR419_6 := Aside0.mk hi419_6
                       have HC419_6 := Aside0.mk hl419_6
                       clear hi419_6 hl419_6
                       replace p419 := eq_true p419
                       replace q419 := eq_true q419
                       have p420 : 0 ≤ (x11_2 : Int) := of_decide_eq_true (by first | (with_reducible assumption) | assumption)
                       have q420 : x11_2 < (t395.length : Int) := of_decide_eq_true (by first | (with_reducible assumption) | assumption)
                       obtain ⟨ad420, A420_6, c420_6, e420, hx420_0, hx420_1, hx420_2, hx420_3, hx420_4, hx420_5, hx420_6, hl420_6, hi420_6⟩ := at_T57 (Kd.S_reads' HO_3.out).2.2 x11_2 p420 q420
                       obtain rfl : ad418 = ad420 := (by injection e420)
                       obtain ⟨ce420, hce420, hMe420, hcc420⟩ := Kd.S_get HO_3.out z57 x11_2 p420 (by first | exact q420 | exact of_decide_eq_true (by first | (with_reducible assumption) | assumption) | (have e_ := (Kd.S_reads' HO_3.out).1; omega))
                       obtain ⟨ve420_6, rfl, ge420_6⟩ := k57_openM hMe420
                       have hv420_6 := hcc420 6 _ rfl
                       rw [add_field _ _ 6 (by omega)] at hv420_6
                       replace hv420_6 := Option.some.inj (hv420_6.symm.trans hx420_6)
                       rw [hv420_6] at ge420_6
                       have HL420_6 := Aside0.mk (show Kd.R (Kd.int .i64) 3 _ _ _ _ ((rd_T57 t395 x11_2).f2) from ge420_6)
                       clear hv420_6 ge420_6
                       clear hcc420 hce420
                       have HR420_6 := Aside0.mk hi420_6
                       have HC420_6 := Aside0.mk hl420_6
                       clear hi420_6 hl420_6
                       replace p420 := eq_true p420
                       replace q420 := eq_true q420
                       have ea_ := Option.some.inj (hx419_6.symm.trans hx420_6)
                       injection ea_ with ea_ en_ ec_
                       subst ea_
                       subst ec_
                       clear en_
                       have p421 : 0 ≤ (x12_4 : Int) := of_decide_eq_true (by first | (with_reducible assumption) | assumption)
                       have q421 : x12_4 < (((rd_T57 t395 x11_2).f2).length : Int) := of_decide_eq_true (by first | (with_reducible assumption) | assumption)
                       obtain ⟨ad421, e421, hx421_0⟩ := Kd.at_int (by repeat (first | (with_reducible exact HR420_6.out) | (with_reducible refine Kd.C_alloc ?_ _) | (with_reducible refine Kd.C_drewN ?_ _) | (with_reducible refine Kd.C_drew ?_) | exact HR420_6.out)) x12_4 p421 q421
                       cases e421
                       replace p421 := eq_true p421
                       replace q421 := eq_true q421
                       have p422 : 0 ≤ (x11_2 : Int) := of_decide_eq_true (by first | (with_reducible assumption) | assumption)
                       have q422 : x11_2 < (t395.length : Int) := of_decide_eq_true (by first | (with_reducible assumption) | assumption)
                       obtain ⟨ad422, A422_6, c422_6, e422, hx422_0, hx422_1, hx422_2, hx422_3, hx422_4, hx422_5, hx422_6, hl422_6, hi422_6⟩ := at_T57 (Kd.S_reads' HO_3.out).2.2 x11_2 p422 q422
                       obtain rfl : ad418 = ad422 := (by injection e422)
                       obtain ⟨ce422, hce422, hMe422, hcc422⟩ := Kd.S_get HO_3.out z57 x11_2 p422 (by first | exact q422 | exact of_decide_eq_true (by first | (with_reducible assumption) | assumption) | (have e_ := (Kd.S_reads' HO_3.out).1; omega))
                       obtain ⟨ve422_6, rfl, ge422_6⟩ := k57_openM hMe422
                       have hv422_6 := hcc422 6 _ rfl
                       rw [add_field _ _ 6 (by omega)] at hv422_6
                       replace hv422_6 := Option.some.inj (hv422_6.symm.trans hx422_6)
                       rw [hv422_6] at ge422_6
                       have HL422_6 := Aside0.mk (show Kd.R (Kd.int .i64) 3 _ _ _ _ ((rd_T57 t395 x11_2).f2) from ge422_6)
                       clear hv422_6 ge422_6
                       clear hcc422 hce422
                       have HR422_6 := Aside0.mk hi422_6
                       have HC422_6 := Aside0.mk hl422_6
                       clear hi422_6 hl422_6
                       replace p422 := eq_true p422
                       replace q422 := eq_true q422
                       have ea_ := Option.some.inj (hx419_6.symm.trans hx422_6)
                       injection ea_ with ea_ en_ ec_
                       subst ea_
                       subst ec_
                       clear en_
                       have p423 : 0 ≤ (x12_4 : Int) := of_decide_eq_true (by first | (with_reducible assumption) | assumption)
                       have q423 : x12_4 < (((rd_T57 t395 x11_2).f2).length : Int) := of_decide_eq_true (by first | (with_reducible assumption) | assumption)
                       obtain ⟨ad423, e423, hx423_0⟩ := Kd.at_int (by repeat (first | (with_reducible exact HR422_6.out) | (with_reducible refine Kd.C_alloc ?_ _) | (with_reducible refine Kd.C_drewN ?_ _) | (with_reducible refine Kd.C_drew ?_) | exact HR422_6.out)) x12_4 p423 q423
                       cases e423
                       replace p423 := eq_true p423
                       replace q423 := eq_true q423
                       have p424 : 0 ≤ (x11_2 : Int) := of_decide_eq_true (by first | (with_reducible assumption) | assumption)
                       have q424 : x11_2 < (t395.length : Int) := of_decide_eq_true (by first | (with_reducible assumption) | assumption)
                       obtain ⟨ad424, A424_6, c424_6, e424, hx424_0, hx424_1, hx424_2, hx424_3, hx424_4, hx424_5, hx424_6, hl424_6, hi424_6⟩ := at_T57 (Kd.S_reads' HO_3.out).2.2 x11_2 p424 q424
                       obtain rfl : ad418 = ad424 := (by injection e424)
                       obtain ⟨ce424, hce424, hMe424, hcc424⟩ := Kd.S_get HO_3.out z57 x11_2 p424 (by first | exact q424 | exact of_decide_eq_true (by first | (with_reducible assumption) | assumption) | (have e_ := (Kd.S_reads' HO_3.out).1; omega))
                       obtain ⟨ve424_6, rfl, ge424_6⟩ := k57_openM hMe424
                       have hv424_6 := hcc424 6 _ rfl
                       rw [add_field _ _ 6 (by omega)] at hv424_6
                       replace hv424_6 := Option.some.inj (hv424_6.symm.trans hx424_6)
                       rw [hv424_6] at ge424_6
                       have HL424_6 := Aside0.mk (show Kd.R (Kd.int .i64) 3 _ _ _ _ ((rd_T57 t395 x11_2).f2) from ge424_6)
                       clear hv424_6 ge424_6
                       clear hcc424 hce424
                       have HR424_6 := Aside0.mk hi424_6
                       have HC424_6 := Aside0.mk hl424_6
                       clear hi424_6 hl424_6
                       replace p424 := eq_true p424
                       replace q424 := eq_true q424
                       have ea_ := Option.some.inj (hx419_6.symm.trans hx424_6)
                       injection ea_ with ea_ en_ ec_
                       subst ea_
                       subst ec_
                       clear en_
                       have p425 : 0 ≤ (x12_4 : Int) := of_decide_eq_true (by first | (with_reducible assumption) | assumption)
                       have q425 : x12_4 < (((rd_T57 t395 x11_2).f2).length : Int) := of_decide_eq_true (by first | (with_reducible assumption) | assumption)
                       obtain ⟨ad425, e425, hx425_0⟩ := Kd.at_int (by repeat (first | (with_reducible exact HR424_6.out) | (with_reducible refine Kd.C_alloc ?_ _) | (with_reducible refine Kd.C_drewN ?_ _) | (with_reducible refine Kd.C_drew ?_) | exact HR424_6.out)) x12_4 p425 q425
                       cases e425
                       replace p425 := eq_true p425
                       replace q425 := eq_true q425
                       obtain ⟨Ao50, co50, eo50⟩ := Kd.R_slice HO_8.out
                       subst eo50
                       have p426 : 0 ≤ ((rd ((rd_T57 t395 x11_2).f2) x12_4) : Int) := of_decide_eq_true (by first | (with_reducible assumption) | assumption)
                       have q426 : (rd ((rd_T57 t395 x11_2).f2) x12_4) < (x8_4.length : Int) := of_decide_eq_true (by first | (with_reducible assumption) | assumption)
                       obtain ⟨ad426, e426, hx426_0⟩ := Kd.at_int (Kd.R_reads' HO_8.out).2.2 (rd ((rd_T57 t395 x11_2).f2) x12_4) p426 q426
                       cases e426
                       replace p426 := eq_true p426
                       replace q426 := eq_true q426
                       have p49 : 0 ≤ ((rd ((rd_T57 t395 x11_2).f2) x12_4) : Int) := of_decide_eq_true (by first | (with_reducible assumption) | assumption)
                       have q49 : ((rd ((rd_T57 t395 x11_2).f2) x12_4) : Int) < ((x8_4.length : Int) : Int) := of_decide_eq_true (by first | (with_reducible assumption) | assumption)
                       obtain ⟨go49, co49, eo49, gb49, gl49, cl49, HG49⟩ := Kd.R_form HO_8.out (by omega)
                       (first | cases eo49 | (injection eo49 with ea_ en_ ec_; (first | subst ea_ | (injection ea_ with ea_; subst ea_)); subst ec_; clear en_))
                       have GB49 := Aside0.mk gb49
                       have GG49 := Aside0.mk HG49
                       clear gb49 gl49 HG49
                       (first | simp only [add_plain] at hx426_0 | skip)
                       obtain ⟨hx49_0, hf49_0⟩ := Kd.R_celln 0 HO_8.out ((rd ((rd_T57 t395 x11_2).f2) x12_4) : Int) p49 q49
                       replace p49 := eq_true p49
                       replace q49 := eq_true q49
                       have HP51 := Kd.R_putg HO_8.out ((rd ((rd_T57 t395 x11_2).f2) x12_4) : Int) (wrap64 ((rd x8_4 (rd ((rd_T57 t395 x11_2).f2) x12_4)) + 1))
                       go_wp2_with (first | ((with_reducible refine gate_store (t := 3) (p := 140) rfl ?_); (try (rw [drewN_self wr]; generalize hq_ : World.drewN wr _ = wr; have n0_ := Aside0.mk (Kd.S_at hq_ HO_3.out); have n1_ := Aside0.mk (Kd.R_at hq_ HO_8.out); have n2_ := Aside0.mk (Kd.R_at hq_ HL419_6.out); have n3_ := Aside0.mk (Kd.R_at hq_ HL420_6.out); have n4_ := Aside0.mk (Kd.R_at hq_ HL422_6.out); have n5_ := Aside0.mk (Kd.R_at hq_ HL424_6.out); have n6_ := Aside0.mk (below_at hq_ HB.out); clear hq_ HO_3 HO_8 HL419_6 HL420_6 HL422_6 HL424_6 HB; have HO_3 := n0_; have HO_8 := n1_; have HL419_6 := n2_; have HL420_6 := n3_; have HL422_6 := n4_; have HL424_6 := n5_; have HB := n6_; clear n0_ n1_ n2_ n3_ n4_ n5_ n6_; (try (have HP51 := Kd.R_putg HO_8.out ((rd ((rd_T57 t395 x11_2).f2) x12_4) : Int) (wrap64 ((rd x8_4 (rd ((rd_T57 t395 x11_2).f2) x12_4)) + 1)))))); refine store_event (t := 3) (p := 140) (v := ?vo_w52) (w1 := (wr.setCell ⟨go49, ((rd ((rd_T57 t395 x11_2).f2) x12_4) : Int).toNat, none⟩ (.int .i64 (wrap64 ((rd x8_4 (rd ((rd_T57 t395 x11_2).f2) x12_4)) + 1))))) ?hg ?ho ?hn ?hr ?_; (case ho => rfl); (case hg => rfl); (case hn => rfl); (case hr => first | (go_simp; done) | (go_simp; rfl)); intro w52 hw; have hg : wr.grownBy w52 (some go49) := (by rw [hw]; exact HP51.2); have hp_ : Kd.R (Kd.int .i64) 3 w52 w.heap.size (fun _ => True) (.slice (some ⟨go49, 0, none⟩) x8_4.length co50) y427 := (by rw [hw, Ny427.out]; exact HP51.1); clear HP51; have n0_ := Aside0.mk (Kd.S_after (v := (.slice (some ⟨go49, 0, none⟩) x8_4.length co50)) (v1 := (.slice (some ⟨go49, 0, none⟩) x8_4.length co50)) (ok := (fun _ => True)) (by (with_reducible repeat (first | apply Kd.S_alloc | apply Kd.S_drewN | apply Kd.S_drew)); exact Kd.S_mono HO_3.out (fun _ hk => ⟨trivial, hk⟩)) hg (.inl rfl)); have n1_ := Aside0.mk (hp_); have n2_ := Aside0.mk (Kd.R_after (v := (.slice (some ⟨go49, 0, none⟩) x8_4.length co50)) (v1 := (.slice (some ⟨go49, 0, none⟩) x8_4.length co50)) (ok := (fun k_ => some k_ ≠ (.slice (some ad418) t395.length co7 : Value).ownBlock)) (by (with_reducible repeat (first | apply Kd.R_alloc | apply Kd.R_drewN | apply Kd.R_drew)); exact Kd.R_mono HL419_6.out (fun _ hk => ⟨hk.2, hk.1⟩)) hg (.inl rfl)); have n3_ := Aside0.mk (Kd.R_after (v := (.slice (some ⟨go49, 0, none⟩) x8_4.length co50)) (v1 := (.slice (some ⟨go49, 0, none⟩) x8_4.length co50)) (ok := (fun k_ => some k_ ≠ (.slice (some ad418) t395.length co7 : Value).ownBlock)) (by (with_reducible repeat (first | apply Kd.R_alloc | apply Kd.R_drewN | apply Kd.R_drew)); exact Kd.R_mono HL420_6.out (fun _ hk => ⟨hk.2, hk.1⟩)) hg (.inl rfl)); have n4_ := Aside0.mk (Kd.R_after (v := (.slice (some ⟨go49, 0, none⟩) x8_4.length co50)) (v1 := (.slice (some ⟨go49, 0, none⟩) x8_4.length co50)) (ok := (fun k_ => some k_ ≠ (.slice (some ad418) t395.length co7 : Value).ownBlock)) (by (with_reducible repeat (first | apply Kd.R_alloc | apply Kd.R_drewN | apply Kd.R_drew)); exact Kd.R_mono HL422_6.out (fun _ hk => ⟨hk.2, hk.1⟩)) hg (.inl rfl)); have n5_ := Aside0.mk (Kd.R_after (v := (.slice (some ⟨go49, 0, none⟩) x8_4.length co50)) (v1 := (.slice (some ⟨go49, 0, none⟩) x8_4.length co50)) (ok := (fun k_ => some k_ ≠ (.slice (some ad418) t395.length co7 : Value).ownBlock)) (by (with_reducible repeat (first | apply Kd.R_alloc | apply Kd.R_drewN | apply Kd.R_drew)); exact Kd.R_mono HL424_6.out (fun _ hk => ⟨hk.2, hk.1⟩)) hg (.inl rfl)); have n6_ := Aside0.mk ((by rw [hw]; exact below_set (HB.out) GB49.out : Below w.heap.size w w52)); clear HO_3; clear HO_8; clear HL419_6; clear HL420_6; clear HL422_6; clear HL424_6; clear HB; have HO_3 := n0_; have HO_8 := n1_; have HL419_6 := n2_; have HL420_6 := n3_; have HL422_6 := n4_; have HL424_6 := n5_; have HB := n6_; clear n0_ n1_ n2_ n3_ n4_ n5_ n6_; clear hg hw hp_))
                       repeat (go_quiet (first | ((with_reducible refine gate_store (t := 3) (p := 140) rfl ?_); (try (rw [drewN_self wr]; generalize hq_ : World.drewN wr _ = wr; have n0_ := Aside0.mk (Kd.S_at hq_ HO_3.out); have n1_ := Aside0.mk (Kd.R_at hq_ HO_8.out); have n2_ := Aside0.mk (Kd.R_at hq_ HL419_6.out); have n3_ := Aside0.mk (Kd.R_at hq_ HL420_6.out); have n4_ := Aside0.mk (Kd.R_at hq_ HL422_6.out); have n5_ := Aside0.mk (Kd.R_at hq_ HL424_6.out); have n6_ := Aside0.mk (below_at hq_ HB.out); clear hq_ HO_3 HO_8 HL419_6 HL420_6 HL422_6 HL424_6 HB; have HO_3 := n0_; have HO_8 := n1_; have HL419_6 := n2_; have HL420_6 := n3_; have HL422_6 := n4_; have HL424_6 := n5_; have HB := n6_; clear n0_ n1_ n2_ n3_ n4_ n5_ n6_; (try (have HP51 := Kd.R_putg HO_8.out ((rd ((rd_T57 t395 x11_2).f2) x12_4) : Int) (wrap64 ((rd x8_4 (rd ((rd_T57 t395 x11_2).f2) x12_4)) + 1)))))); refine store_event (t := 3) (p := 140) (v := ?vo_w52) (w1 := (wr.setCell ⟨go49, ((rd ((rd_T57 t395 x11_2).f2) x12_4) : Int).toNat, none⟩ (.int .i64 (wrap64 ((rd x8_4 (rd ((rd_T57 t395 x11_2).f2) x12_4)) + 1))))) ?hg ?ho ?hn ?hr ?_; (case ho => rfl); (case hg => rfl); (case hn => rfl); (case hr => first | (go_simp; done) | (go_simp; rfl)); intro w52 hw; have hg : wr.grownBy w52 (some go49) := (by rw [hw]; exact HP51.2); have hp_ : Kd.R (Kd.int .i64) 3 w52 w.heap.size (fun _ => True) (.slice (some ⟨go49, 0, none⟩) x8_4.length co50) y427 := (by rw [hw, Ny427.out]; exact HP51.1); clear HP51; have n0_ := Aside0.mk (Kd.S_after (v := (.slice (some ⟨go49, 0, none⟩) x8_4.length co50)) (v1 := (.slice (some ⟨go49, 0, none⟩) x8_4.length co50)) (ok := (fun _ => True)) (by (with_reducible repeat (first | apply Kd.S_alloc | apply Kd.S_drewN | apply Kd.S_drew)); exact Kd.S_mono HO_3.out (fun _ hk => ⟨trivial, hk⟩)) hg (.inl rfl)); have n1_ := Aside0.mk (hp_); have n2_ := Aside0.mk (Kd.R_after (v := (.slice (some ⟨go49, 0, none⟩) x8_4.length co50)) (v1 := (.slice (some ⟨go49, 0, none⟩) x8_4.length co50)) (ok := (fun k_ => some k_ ≠ (.slice (some ad418) t395.length co7 : Value).ownBlock)) (by (with_reducible repeat (first | apply Kd.R_alloc | apply Kd.R_drewN | apply Kd.R_drew)); exact Kd.R_mono HL419_6.out (fun _ hk => ⟨hk.2, hk.1⟩)) hg (.inl rfl)); have n3_ := Aside0.mk (Kd.R_after (v := (.slice (some ⟨go49, 0, none⟩) x8_4.length co50)) (v1 := (.slice (some ⟨go49, 0, none⟩) x8_4.length co50)) (ok := (fun k_ => some k_ ≠ (.slice (some ad418) t395.length co7 : Value).ownBlock)) (by (with_reducible repeat (first | apply Kd.R_alloc | apply Kd.R_drewN | apply Kd.R_drew)); exact Kd.R_mono HL420_6.out (fun _ hk => ⟨hk.2, hk.1⟩)) hg (.inl rfl)); have n4_ := Aside0.mk (Kd.R_after (v := (.slice (some ⟨go49, 0, none⟩) x8_4.length co50)) (v1 := (.slice (some ⟨go49, 0, none⟩) x8_4.length co50)) (ok := (fun k_ => some k_ ≠ (.slice (some ad418) t395.length co7 : Value).ownBlock)) (by (with_reducible repeat (first | apply Kd.R_alloc | apply Kd.R_drewN | apply Kd.R_drew)); exact Kd.R_mono HL422_6.out (fun _ hk => ⟨hk.2, hk.1⟩)) hg (.inl rfl)); have n5_ := Aside0.mk (Kd.R_after (v := (.slice (some ⟨go49, 0, none⟩) x8_4.length co50)) (v1 := (.slice (some ⟨go49, 0, none⟩) x8_4.length co50)) (ok := (fun k_ => some k_ ≠ (.slice (some ad418) t395.length co7 : Value).ownBlock)) (by (with_reducible repeat (first | apply Kd.R_alloc | apply Kd.R_drewN | apply Kd.R_drew)); exact Kd.R_mono HL424_6.out (fun _ hk => ⟨hk.2, hk.1⟩)) hg (.inl rfl)); have n6_ := Aside0.mk ((by rw [hw]; exact below_set (HB.out) GB49.out : Below w.heap.size w w52)); clear HO_3; clear HO_8; clear HL419_6; clear HL420_6; clear HL422_6; clear HL424_6; clear HB; have HO_3 := n0_; have HO_8 := n1_; have HL419_6 := n2_; have HL420_6 := n3_; have HL422_6 := n4_; have HL424_6 := n5_; have HB := n6_; clear n0_ n1_ n2_ n3_ n4_ n5_ n6_; clear hg hw hp_)); try go_wp2_with (first | ((with_reducible refine gate_store (t := 3) (p := 140) rfl ?_); (try (rw [drewN_self wr]; generalize hq_ : World.drewN wr _ = wr; have n0_ := Aside0.mk (Kd.S_at hq_ HO_3.out); have n1_ := Aside0.mk (Kd.R_at hq_ HO_8.out); have n2_ := Aside0.mk (Kd.R_at hq_ HL419_6.out); have n3_ := Aside0.mk (Kd.R_at hq_ HL420_6.out); have n4_ := Aside0.mk (Kd.R_at hq_ HL422_6.out); have n5_ := Aside0.mk (Kd.R_at hq_ HL424_6.out); have n6_ := Aside0.mk (below_at hq_ HB.out); clear hq_ HO_3 HO_8 HL419_6 HL420_6 HL422_6 HL424_6 HB; have HO_3 := n0_; have HO_8 := n1_; have HL419_6 := n2_; have HL420_6 := n3_; have HL422_6 := n4_; have HL424_6 := n5_; have HB := n6_; clear n0_ n1_ n2_ n3_ n4_ n5_ n6_; (try (have HP51 := Kd.R_putg HO_8.out ((rd ((rd_T57 t395 x11_2).f2) x12_4) : Int) (wrap64 ((rd x8_4 (rd ((rd_T57 t395 x11_2).f2) x12_4)) + 1)))))); refine store_event (t := 3) (p := 140) (v := ?vo_w52) (w1 := (wr.setCell ⟨go49, ((rd ((rd_T57 t395 x11_2).f2) x12_4) : Int).toNat, none⟩ (.int .i64 (wrap64 ((rd x8_4 (rd ((rd_T57 t395 x11_2).f2) x12_4)) + 1))))) ?hg ?ho ?hn ?hr ?_; (case ho => rfl); (case hg => rfl); (case hn => rfl); (case hr => first | (go_simp; done) | (go_simp; rfl)); intro w52 hw; have hg : wr.grownBy w52 (some go49) := (by rw [hw]; exact HP51.2); have hp_ : Kd.R (Kd.int .i64) 3 w52 w.heap.size (fun _ => True) (.slice (some ⟨go49, 0, none⟩) x8_4.length co50) y427 := (by rw [hw, Ny427.out]; exact HP51.1); clear HP51; have n0_ := Aside0.mk (Kd.S_after (v := (.slice (some ⟨go49, 0, none⟩) x8_4.length co50)) (v1 := (.slice (some ⟨go49, 0, none⟩) x8_4.length co50)) (ok := (fun _ => True)) (by (with_reducible repeat (first | apply Kd.S_alloc | apply Kd.S_drewN | apply Kd.S_drew)); exact Kd.S_mono HO_3.out (fun _ hk => ⟨trivial, hk⟩)) hg (.inl rfl)); have n1_ := Aside0.mk (hp_); have n2_ := Aside0.mk (Kd.R_after (v := (.slice (some ⟨go49, 0, none⟩) x8_4.length co50)) (v1 := (.slice (some ⟨go49, 0, none⟩) x8_4.length co50)) (ok := (fun k_ => some k_ ≠ (.slice (some ad418) t395.length co7 : Value).ownBlock)) (by (with_reducible repeat (first | apply Kd.R_alloc | apply Kd.R_drewN | apply Kd.R_drew)); exact Kd.R_mono HL419_6.out (fun _ hk => ⟨hk.2, hk.1⟩)) hg (.inl rfl)); have n3_ := Aside0.mk (Kd.R_after (v := (.slice (some ⟨go49, 0, none⟩) x8_4.length co50)) (v1 := (.slice (some ⟨go49, 0, none⟩) x8_4.length co50)) (ok := (fun k_ => some k_ ≠ (.slice (some ad418) t395.length co7 : Value).ownBlock)) (by (with_reducible repeat (first | apply Kd.R_alloc | apply Kd.R_drewN | apply Kd.R_drew)); exact Kd.R_mono HL420_6.out (fun _ hk => ⟨hk.2, hk.1⟩)) hg (.inl rfl)); have n4_ := Aside0.mk (Kd.R_after (v := (.slice (some ⟨go49, 0, none⟩) x8_4.length co50)) (v1 := (.slice (some ⟨go49, 0, none⟩) x8_4.length co50)) (ok := (fun k_ => some k_ ≠ (.slice (some ad418) t395.length co7 : Value).ownBlock)) (by (with_reducible repeat (first | apply Kd.R_alloc | apply Kd.R_drewN | apply Kd.R_drew)); exact Kd.R_mono HL422_6.out (fun _ hk => ⟨hk.2, hk.1⟩)) hg (.inl rfl)); have n5_ := Aside0.mk (Kd.R_after (v := (.slice (some ⟨go49, 0, none⟩) x8_4.length co50)) (v1 := (.slice (some ⟨go49, 0, none⟩) x8_4.length co50)) (ok := (fun k_ => some k_ ≠ (.slice (some ad418) t395.length co7 : Value).ownBlock)) (by (with_reducible repeat (first | apply Kd.R_alloc | apply Kd.R_drewN | apply Kd.R_drew)); exact Kd.R_mono HL424_6.out (fun _ hk => ⟨hk.2, hk.1⟩)) hg (.inl rfl)); have n6_ := Aside0.mk ((by rw [hw]; exact below_set (HB.out) GB49.out : Below w.heap.size w w52)); clear HO_3; clear HO_8; clear HL419_6; clear HL420_6; clear HL422_6; clear HL424_6; clear HB; have HO_3 := n0_; have HO_8 := n1_; have HL419_6 := n2_; have HL420_6 := n3_; have HL422_6 := n4_; have HL424_6 := n5_; have HB := n6_; clear n0_ n1_ n2_ n3_ n4_ n5_ n6_; clear hg hw hp_)))
                       go_roundg k4
                       case measure => have := HK1.out; have := HK2.out; have := HJ38.out; have := HK4.out; omega
                       case rel => exact ⟨(y427), (wrap64 (x12_4 + 1)), (by first | rfl | (simp; done) | (simp [*]; done)), H', ⟨by have := HK1.out; have := HK2.out; have := HJ38.out; have := HK4.out; omega⟩, ⟨by (with_reducible repeat (first | apply Kd.S_alloc | apply Kd.S_drewN | apply Kd.S_drew)); exact Kd.S_mono HO_3.out (fun _ hk => hk.2)⟩, ⟨by (with_reducible repeat (first | apply Kd.R_alloc | apply Kd.R_drewN | apply Kd.R_drew)); exact HO_8.out⟩, ⟨by repeat (first | (with_reducible first | exact HB.out | apply below_alloc | apply pw_below_drewN | apply below_drew1) | exact HB.out)⟩⟩
                      ·rw [if_neg c48] at H
                       exact absurd H (by simp)
                     ·rw [if_neg c47] at H
                      exact absurd H (by simp)
                  ·rw [if_neg c44] at H
                   exact absurd H (by simp)
                 ·rw [if_neg c43] at H
                  have c43b0 : decide (x12_4 < (((rd_T57 t395 x11_2).f2).length : Int)) = false := decide_eq_false c43
                  clear c43
                  have H' := Aside0.mk H
                  clear H
                  have p419 : 0 ≤ (x11_2 : Int) := of_decide_eq_true (by first | (with_reducible assumption) | assumption)
                  have q419 : x11_2 < (t395.length : Int) := of_decide_eq_true (by first | (with_reducible assumption) | assumption)
                  obtain ⟨ad419, A419_6, c419_6, e419, hx419_0, hx419_1, hx419_2, hx419_3, hx419_4, hx419_5, hx419_6, hl419_6, hi419_6⟩ := at_T57 (Kd.S_reads' HO_3.out).2.2 x11_2 p419 q419
                  obtain rfl : ad418 = ad419 := (by injection e419)
                  obtain ⟨ce419, hce419, hMe419, hcc419⟩ := Kd.S_get HO_3.out z57 x11_2 p419 (by first | exact q419 | exact of_decide_eq_true (by first | (with_reducible assumption) | assumption) | (have e_ := (Kd.S_reads' HO_3.out).1; omega))
                  obtain ⟨ve419_6, rfl, ge419_6⟩ := k57_openM hMe419
                  have hv419_6 := hcc419 6 _ rfl
                  rw [add_field _ _ 6 (by omega)] at hv419_6
                  replace hv419_6 := Option.some.inj (hv419_6.symm.trans hx419_6)
                  rw [hv419_6] at ge419_6
                  have HL419_6 := Aside0.mk (show Kd.R (Kd.int .i64) 3 _ _ _ _ ((rd_T57 t395 x11_2).f2) from ge419_6)
                  clear hv419_6 ge419_6
                  clear hcc419 hce419
                  have HR419_6 := Aside0.mk hi419_6
                  have HC419_6 := Aside0.mk hl419_6
                  clear hi419_6 hl419_6
                  replace p419 := eq_true p419
                  replace q419 := eq_true q419
                  go_wp2
                  repeat (go_quiet (fail); try go_wp2)
                  go_roundg k4
                  case measure => have := HK1.out; have := HK2.out; have := HJ38.out; have := HK4.out; omega
                  case rel => exact ⟨(x8_4), (x10_38), (wrap64 (x11_2 + 1)), (by first | rfl | (simp; done) | (simp [*]; done)), (by first | rfl | (simp; done) | (simp [*]; done)), H', ⟨by have := HK1.out; have := HK2.out; have := HJ38.out; have := HK4.out; omega⟩, ⟨by (with_reducible repeat (first | apply Kd.S_alloc | apply Kd.S_drewN | apply Kd.S_drew)); exact HO_3.out⟩, ⟨by (with_reducible repeat (first | apply Kd.R_alloc | apply Kd.R_drewN | apply Kd.R_drew)); exact HO_8.out⟩, ⟨by repeat (first | (with_reducible first | exact HB.out | apply below_alloc | apply pw_below_drewN | apply below_drew1) | exact HB.out)⟩⟩
                ·rw [if_neg c42] at H
                 exact absurd H (by simp)
               ·rw [if_neg c41] at H
                exact absurd H (by simp)
          ·rw [if_neg c38] at H
           exact absurd H (by simp)
         ·rw [if_neg c37] at H
          have c37b0 : decide (x11_2 < (t395.length : Int)) = false := decide_eq_false c37
          clear c37
          have H' := Aside0.mk H
          clear H
          go_wp2
          repeat (go_quiet (fail); try go_wp2)
          go_loopg [13] k2 (fun kq v13 w' => ∃ (x13_3 : Int), v13 = .int .i64 x13_3 ∧ Aside0 (tribunallaw07_SexpOnce.l3 kq l0 t395 x8_2 x10_2 x13_3 = some r) ∧ Aside0 (kq ≤ k2) ∧ Aside0 (Kd.S k57 57 w' w.heap.size (fun k_ => some k_ ≠ (v406 : Value).ownBlock) (.slice Ao7 t395.length co7) t395) ∧ Aside0 (Kd.R (Kd.int .i64) 3 w' w.heap.size (fun _ => True) v406 x8_2) ∧ Aside0 (Below w.heap.size w w'))
          case atStart => exact ⟨(0), (by first | rfl | (simp; done) | (simp [*]; done)), H', ⟨Nat.le_refl _⟩, ⟨by (with_reducible repeat (first | apply Kd.S_alloc | apply Kd.S_drewN | apply Kd.S_drew)); exact HO_3.out⟩, ⟨by (with_reducible repeat (first | apply Kd.R_alloc | apply Kd.R_drewN | apply Kd.R_drew)); exact HO_8.out⟩, ⟨by repeat (first | (with_reducible first | exact HB.out | apply below_alloc | apply pw_below_drewN | apply below_drew1) | exact HB.out)⟩⟩
          case round =>
           clear H'
           obtain ⟨x13_3, rfl, HA, HK3, HO_3, HO_8, HB⟩ := hrel
           cases gk with
           | zero => exact absurd HA.out (by simp [tribunallaw07_SexpOnce.l3])
           | succ k3 =>
            have H := HA.out
            clear HA
            simp only [tribunallaw07_SexpOnce.l3] at H
            by_cases c53 : x13_3 < (x8_2.length : Int)
            ·rw [if_pos c53] at H
             have c53b0 : decide (x13_3 < (x8_2.length : Int)) = true := decide_eq_true c53
             clear c53
             by_cases c54 : 0 ≤ x13_3
             ·rw [if_pos c54] at H
              have c54b0 : decide (0 ≤ x13_3) = true := decide_eq_true c54
              clear c54
              by_cases c55 : (rd x8_2 x13_3) = 1
              ·rw [if_pos c55] at H
               have c55b0 : ((rd x8_2 x13_3) == 1) = true := beq_iff_eq.mpr c55
               have c55b1 : ((rd x8_2 x13_3) != 1) = false := bne_eq_false_iff_eq.mpr c55
               clear c55
               have H' := Aside0.mk H
               clear H
               obtain ⟨Ao56, co56, eo56⟩ := Kd.R_slice HO_8.out
               subst eo56
               have p428 : 0 ≤ (x13_3 : Int) := of_decide_eq_true (by first | (with_reducible assumption) | assumption)
               have q428 : x13_3 < (x8_2.length : Int) := of_decide_eq_true (by first | (with_reducible assumption) | assumption)
               obtain ⟨ad428, e428, hx428_0⟩ := Kd.at_int (Kd.R_reads' HO_8.out).2.2 x13_3 p428 q428
               cases e428
               replace p428 := eq_true p428
               replace q428 := eq_true q428
               go_wp2
               repeat (go_quiet (fail); try go_wp2)
               go_roundg k3
               case measure => have := HK1.out; have := HK2.out; have := HK3.out; omega
               case rel => exact ⟨(wrap64 (x13_3 + 1)), (by first | rfl | (simp; done) | (simp [*]; done)), H', ⟨by have := HK1.out; have := HK2.out; have := HK3.out; omega⟩, ⟨by (with_reducible repeat (first | apply Kd.S_alloc | apply Kd.S_drewN | apply Kd.S_drew)); exact HO_3.out⟩, ⟨by (with_reducible repeat (first | apply Kd.R_alloc | apply Kd.R_drewN | apply Kd.R_drew)); exact HO_8.out⟩, ⟨by repeat (first | (with_reducible first | exact HB.out | apply below_alloc | apply pw_below_drewN | apply below_drew1) | exact HB.out)⟩⟩
              ·rw [if_neg c55] at H
               have c55b0 : ((rd x8_2 x13_3) == 1) = false := beq_eq_false_iff_ne.mpr c55
               have c55b1 : ((rd x8_2 x13_3) != 1) = true := bne_iff_ne.mpr c55
               obtain rfl := Option.some.inj H
               obtain ⟨Ao57, co57, eo57⟩ := Kd.R_slice HO_8.out
               subst eo57
               have p428 : 0 ≤ (x13_3 : Int) := of_decide_eq_true (by first | (with_reducible assumption) | assumption)
               have q428 : x13_3 < (x8_2.length : Int) := of_decide_eq_true (by first | (with_reducible assumption) | assumption)
               obtain ⟨ad428, e428, hx428_0⟩ := Kd.at_int (Kd.R_reads' HO_8.out).2.2 x13_3 p428 q428
               cases e428
               replace p428 := eq_true p428
               replace q428 := eq_true q428
               go_wp2
               repeat (go_quiet (fail); try go_wp2)
               go_ret
               exact ⟨by first | rfl | (simp [errW_none, errW_some] <;> rfl) | (simp [*, errW_none, errW_some] <;> rfl), by repeat (first | (with_reducible first | exact HB.out | apply below_alloc | apply pw_below_drewN | apply below_drew1) | exact HB.out)⟩
             ·rw [if_neg c54] at H
              exact absurd H (by simp)
            ·rw [if_neg c53] at H
             have c53b0 : decide (x13_3 < (x8_2.length : Int)) = false := decide_eq_false c53
             clear c53
             by_cases c58 : (wrap64 (x10_2 + (wrap64 (2 * (wrap64 ((t395.length : Int) - x10_2)))))) = (l0.length : Int)
             ·rw [if_pos c58] at H
              have c58b0 : ((wrap64 (x10_2 + (wrap64 (2 * (wrap64 ((t395.length : Int) - x10_2)))))) == (l0.length : Int)) = true := beq_iff_eq.mpr c58
              have c58b1 : ((wrap64 (x10_2 + (wrap64 (2 * (wrap64 ((t395.length : Int) - x10_2)))))) != (l0.length : Int)) = false := bne_eq_false_iff_eq.mpr c58
              clear c58
              replace H := Option.bind_eq_some_iff.mp H
              obtain ⟨t429, A590, H⟩ := H
              replace H : (some t429) = some r := H
              have A59 := Aside0.mk A590
              clear A590
              obtain rfl := Option.some.inj H
              obtain ⟨Ao60, co60, eo60⟩ := Kd.R_slice HO_8.out
              subst eo60
              go_wp2_with (first | (go_at_call 27; (with_reducible refine (tribunallaw07_alive.calls k3  t429 _ A59.out).mono ?_); rintro e w61 ⟨rfl, hb⟩; have n0_ := Aside0.mk (Kd.S_below (by (with_reducible repeat (first | apply Kd.S_alloc | apply Kd.S_drewN | apply Kd.S_drew)); exact HO_3.out) hb); have n1_ := Aside0.mk (Kd.R_below (by (with_reducible repeat (first | apply Kd.R_alloc | apply Kd.R_drewN | apply Kd.R_drew)); exact HO_8.out) hb); have n2_ := Aside0.mk (below_step (by repeat (first | (with_reducible first | exact HB.out | apply below_alloc | apply pw_below_drewN | apply below_drew1) | exact HB.out)) hb); clear HO_3; clear HO_8; clear HB; have HO_3 := n0_; have HO_8 := n1_; have HB := n2_; clear n0_ n1_ n2_; (try clear hb); (try clear hb2); (try clear hk); (try clear hi)))
              repeat (go_quiet (first | (go_at_call 27; (with_reducible refine (tribunallaw07_alive.calls k3  t429 _ A59.out).mono ?_); rintro e w61 ⟨rfl, hb⟩; have n0_ := Aside0.mk (Kd.S_below (by (with_reducible repeat (first | apply Kd.S_alloc | apply Kd.S_drewN | apply Kd.S_drew)); exact HO_3.out) hb); have n1_ := Aside0.mk (Kd.R_below (by (with_reducible repeat (first | apply Kd.R_alloc | apply Kd.R_drewN | apply Kd.R_drew)); exact HO_8.out) hb); have n2_ := Aside0.mk (below_step (by repeat (first | (with_reducible first | exact HB.out | apply below_alloc | apply pw_below_drewN | apply below_drew1) | exact HB.out)) hb); clear HO_3; clear HO_8; clear HB; have HO_3 := n0_; have HO_8 := n1_; have HB := n2_; clear n0_ n1_ n2_; (try clear hb); (try clear hb2); (try clear hk); (try clear hi))); try go_wp2_with (first | (go_at_call 27; (with_reducible refine (tribunallaw07_alive.calls k3  t429 _ A59.out).mono ?_); rintro e w61 ⟨rfl, hb⟩; have n0_ := Aside0.mk (Kd.S_below (by (with_reducible repeat (first | apply Kd.S_alloc | apply Kd.S_drewN | apply Kd.S_drew)); exact HO_3.out) hb); have n1_ := Aside0.mk (Kd.R_below (by (with_reducible repeat (first | apply Kd.R_alloc | apply Kd.R_drewN | apply Kd.R_drew)); exact HO_8.out) hb); have n2_ := Aside0.mk (below_step (by repeat (first | (with_reducible first | exact HB.out | apply below_alloc | apply pw_below_drewN | apply below_drew1) | exact HB.out)) hb); clear HO_3; clear HO_8; clear HB; have HO_3 := n0_; have HO_8 := n1_; have HB := n2_; clear n0_ n1_ n2_; (try clear hb); (try clear hb2); (try clear hk); (try clear hi))))
              go_ret
              exact ⟨by first | rfl | (simp [errW_none, errW_some] <;> rfl) | (simp [*, errW_none, errW_some] <;> rfl), by repeat (first | (with_reducible first | exact HB.out | apply below_alloc | apply pw_below_drewN | apply below_drew1) | exact HB.out)⟩
             ·rw [if_neg c58] at H
              have c58b0 : ((wrap64 (x10_2 + (wrap64 (2 * (wrap64 ((t395.length : Int) - x10_2)))))) == (l0.length : Int)) = false := beq_eq_false_iff_ne.mpr c58
              have c58b1 : ((wrap64 (x10_2 + (wrap64 (2 * (wrap64 ((t395.length : Int) - x10_2)))))) != (l0.length : Int)) = true := bne_iff_ne.mpr c58
              obtain rfl := Option.some.inj H
              obtain ⟨Ao62, co62, eo62⟩ := Kd.R_slice HO_8.out
              subst eo62
              go_wp2
              repeat (go_quiet (fail); try go_wp2)
              go_ret
              exact ⟨by first | rfl | (simp [errW_none, errW_some] <;> rfl) | (simp [*, errW_none, errW_some] <;> rfl), by repeat (first | (with_reducible first | exact HB.out | apply below_alloc | apply pw_below_drewN | apply below_drew1) | exact HB.out)⟩
   ·rw [if_neg c5] at H
    exact absurd H (by simp)
  ·rw [if_neg c4] at H
   exact absurd H (by simp)
 ·rw [if_neg c3] at H
  have c3b0 : (t399 == 0) = false := beq_eq_false_iff_ne.mpr c3
  have c3b1 : (t399 != 0) = true := bne_iff_ne.mpr c3
  by_cases c63 : (t395.length : Int) = 0
  ·rw [if_pos c63] at H
   have c63b0 : ((t395.length : Int) == 0) = true := beq_iff_eq.mpr c63
   have c63b1 : ((t395.length : Int) != 0) = false := bne_eq_false_iff_eq.mpr c63
   clear c63
   by_cases c64 : (t396.length : Int) = 0
   ·rw [if_pos c64] at H
    have c64b0 : ((t396.length : Int) == 0) = true := beq_iff_eq.mpr c64
    have c64b1 : ((t396.length : Int) != 0) = false := bne_eq_false_iff_eq.mpr c64
    clear c64
    replace H := Option.bind_eq_some_iff.mp H
    obtain ⟨t404, A650, H⟩ := H
    replace H : (some t404) = some r := H
    have A65 := Aside0.mk A650
    clear A650
    obtain rfl := Option.some.inj H
    go_enter Tryd.func13, Tryd.ntmps13
    go_wp2_with (first | (go_at_call 23; (with_reducible refine (sexp_Parse.calls _ _ l0 t395 t396 t397 t398 t399 _ ?side1 ?side2 A2.out).mono ?_); (case side1 => repeat (first | exact HR0.out | (with_reducible refine Kd.C_alloc ?_ _) | (with_reducible refine Kd.C_drewN ?_ _) | (with_reducible refine Kd.C_drew ?_))); (case side2 => exact HC0.out); rintro e w66 ⟨v400, v402, rfl, ho0, ho1, hb⟩; have n0_ := Aside0.mk (Kd.S_lower ho0 (below_size (by repeat (first | (with_reducible first | exact HB.out | apply below_alloc | apply pw_below_drewN | apply below_drew1) | exact HB.out)))); have n1_ := Aside0.mk (Kd.R_lower ho1 (below_size (by repeat (first | (with_reducible first | exact HB.out | apply below_alloc | apply pw_below_drewN | apply below_drew1) | exact HB.out)))); have n2_ := Aside0.mk (below_step (by repeat (first | (with_reducible first | exact HB.out | apply below_alloc | apply pw_below_drewN | apply below_drew1) | exact HB.out)) hb); clear HB; have HO401 := n0_; have HO403 := n1_; have HB := n2_; clear n0_ n1_ n2_; (try clear hb); (try clear hb2); (try clear hk); (try clear hi); (try clear ho0); (try clear ho1); obtain ⟨Ao67, co67, eo67⟩ := Kd.S_slice HO401.out; subst eo67; obtain ⟨Ao68, co68, eo68⟩ := Kd.R_slice HO403.out; subst eo68) | (go_at_call 27; (with_reducible refine (tribunallaw07_alive.calls k  t404 _ A65.out).mono ?_); rintro e w69 ⟨rfl, hb⟩; have n0_ := Aside0.mk (Kd.S_below (by (with_reducible repeat (first | apply Kd.S_alloc | apply Kd.S_drewN | apply Kd.S_drew)); exact HO401.out) hb); have n1_ := Aside0.mk (Kd.R_below (by (with_reducible repeat (first | apply Kd.R_alloc | apply Kd.R_drewN | apply Kd.R_drew)); exact HO403.out) hb); have n2_ := Aside0.mk (below_step (by repeat (first | (with_reducible first | exact HB.out | apply below_alloc | apply pw_below_drewN | apply below_drew1) | exact HB.out)) hb); clear HO401; clear HO403; clear HB; have HO401 := n0_; have HO403 := n1_; have HB := n2_; clear n0_ n1_ n2_; (try clear hb); (try clear hb2); (try clear hk); (try clear hi)))
    repeat (go_quiet (first | (go_at_call 23; (with_reducible refine (sexp_Parse.calls _ _ l0 t395 t396 t397 t398 t399 _ ?side1 ?side2 A2.out).mono ?_); (case side1 => repeat (first | exact HR0.out | (with_reducible refine Kd.C_alloc ?_ _) | (with_reducible refine Kd.C_drewN ?_ _) | (with_reducible refine Kd.C_drew ?_))); (case side2 => exact HC0.out); rintro e w66 ⟨v400, v402, rfl, ho0, ho1, hb⟩; have n0_ := Aside0.mk (Kd.S_lower ho0 (below_size (by repeat (first | (with_reducible first | exact HB.out | apply below_alloc | apply pw_below_drewN | apply below_drew1) | exact HB.out)))); have n1_ := Aside0.mk (Kd.R_lower ho1 (below_size (by repeat (first | (with_reducible first | exact HB.out | apply below_alloc | apply pw_below_drewN | apply below_drew1) | exact HB.out)))); have n2_ := Aside0.mk (below_step (by repeat (first | (with_reducible first | exact HB.out | apply below_alloc | apply pw_below_drewN | apply below_drew1) | exact HB.out)) hb); clear HB; have HO401 := n0_; have HO403 := n1_; have HB := n2_; clear n0_ n1_ n2_; (try clear hb); (try clear hb2); (try clear hk); (try clear hi); (try clear ho0); (try clear ho1); obtain ⟨Ao67, co67, eo67⟩ := Kd.S_slice HO401.out; subst eo67; obtain ⟨Ao68, co68, eo68⟩ := Kd.R_slice HO403.out; subst eo68) | (go_at_call 27; (with_reducible refine (tribunallaw07_alive.calls k  t404 _ A65.out).mono ?_); rintro e w69 ⟨rfl, hb⟩; have n0_ := Aside0.mk (Kd.S_below (by (with_reducible repeat (first | apply Kd.S_alloc | apply Kd.S_drewN | apply Kd.S_drew)); exact HO401.out) hb); have n1_ := Aside0.mk (Kd.R_below (by (with_reducible repeat (first | apply Kd.R_alloc | apply Kd.R_drewN | apply Kd.R_drew)); exact HO403.out) hb); have n2_ := Aside0.mk (below_step (by repeat (first | (with_reducible first | exact HB.out | apply below_alloc | apply pw_below_drewN | apply below_drew1) | exact HB.out)) hb); clear HO401; clear HO403; clear HB; have HO401 := n0_; have HO403 := n1_; have HB := n2_; clear n0_ n1_ n2_; (try clear hb); (try clear hb2); (try clear hk); (try clear hi))); try go_wp2_with (first | (go_at_call 23; (with_reducible refine (sexp_Parse.calls _ _ l0 t395 t396 t397 t398 t399 _ ?side1 ?side2 A2.out).mono ?_); (case side1 => repeat (first | exact HR0.out | (with_reducible refine Kd.C_alloc ?_ _) | (with_reducible refine Kd.C_drewN ?_ _) | (with_reducible refine Kd.C_drew ?_))); (case side2 => exact HC0.out); rintro e w66 ⟨v400, v402, rfl, ho0, ho1, hb⟩; have n0_ := Aside0.mk (Kd.S_lower ho0 (below_size (by repeat (first | (with_reducible first | exact HB.out | apply below_alloc | apply pw_below_drewN | apply below_drew1) | exact HB.out)))); have n1_ := Aside0.mk (Kd.R_lower ho1 (below_size (by repeat (first | (with_reducible first | exact HB.out | apply below_alloc | apply pw_below_drewN | apply below_drew1) | exact HB.out)))); have n2_ := Aside0.mk (below_step (by repeat (first | (with_reducible first | exact HB.out | apply below_alloc | apply pw_below_drewN | apply below_drew1) | exact HB.out)) hb); clear HB; have HO401 := n0_; have HO403 := n1_; have HB := n2_; clear n0_ n1_ n2_; (try clear hb); (try clear hb2); (try clear hk); (try clear hi); (try clear ho0); (try clear ho1); obtain ⟨Ao67, co67, eo67⟩ := Kd.S_slice HO401.out; subst eo67; obtain ⟨Ao68, co68, eo68⟩ := Kd.R_slice HO403.out; subst eo68) | (go_at_call 27; (with_reducible refine (tribunallaw07_alive.calls k  t404 _ A65.out).mono ?_); rintro e w69 ⟨rfl, hb⟩; have n0_ := Aside0.mk (Kd.S_below (by (with_reducible repeat (first | apply Kd.S_alloc | apply Kd.S_drewN | apply Kd.S_drew)); exact HO401.out) hb); have n1_ := Aside0.mk (Kd.R_below (by (with_reducible repeat (first | apply Kd.R_alloc | apply Kd.R_drewN | apply Kd.R_drew)); exact HO403.out) hb); have n2_ := Aside0.mk (below_step (by repeat (first | (with_reducible first | exact HB.out | apply below_alloc | apply pw_below_drewN | apply below_drew1) | exact HB.out)) hb); clear HO401; clear HO403; clear HB; have HO401 := n0_; have HO403 := n1_; have HB := n2_; clear n0_ n1_ n2_; (try clear hb); (try clear hb2); (try clear hk); (try clear hi))))
    go_ret
    exact ⟨by first | rfl | (simp [errW_none, errW_some] <;> rfl) | (simp [*, errW_none, errW_some] <;> rfl), by repeat (first | (with_reducible first | exact HB.out | apply below_alloc | apply pw_below_drewN | apply below_drew1) | exact HB.out)⟩
   ·rw [if_neg c64] at H
    have c64b0 : ((t396.length : Int) == 0) = false := beq_eq_false_iff_ne.mpr c64
    have c64b1 : ((t396.length : Int) != 0) = true := bne_iff_ne.mpr c64
    have c64b2 : ¬ (t396 = []) := fun h_ => c64 (by rw [h_]; rfl)
    obtain rfl := Option.some.inj H
    go_enter Tryd.func13, Tryd.ntmps13
    go_wp2_with (first | (go_at_call 23; (with_reducible refine (sexp_Parse.calls _ _ l0 t395 t396 t397 t398 t399 _ ?side1 ?side2 A2.out).mono ?_); (case side1 => repeat (first | exact HR0.out | (with_reducible refine Kd.C_alloc ?_ _) | (with_reducible refine Kd.C_drewN ?_ _) | (with_reducible refine Kd.C_drew ?_))); (case side2 => exact HC0.out); rintro e w70 ⟨v400, v402, rfl, ho0, ho1, hb⟩; have n0_ := Aside0.mk (Kd.S_lower ho0 (below_size (by repeat (first | (with_reducible first | exact HB.out | apply below_alloc | apply pw_below_drewN | apply below_drew1) | exact HB.out)))); have n1_ := Aside0.mk (Kd.R_lower ho1 (below_size (by repeat (first | (with_reducible first | exact HB.out | apply below_alloc | apply pw_below_drewN | apply below_drew1) | exact HB.out)))); have n2_ := Aside0.mk (below_step (by repeat (first | (with_reducible first | exact HB.out | apply below_alloc | apply pw_below_drewN | apply below_drew1) | exact HB.out)) hb); clear HB; have HO401 := n0_; have HO403 := n1_; have HB := n2_; clear n0_ n1_ n2_; (try clear hb); (try clear hb2); (try clear hk); (try clear hi); (try clear ho0); (try clear ho1); obtain ⟨Ao71, co71, eo71⟩ := Kd.S_slice HO401.out; subst eo71; obtain ⟨Ao72, co72, eo72⟩ := Kd.R_slice HO403.out; subst eo72))
    repeat (go_quiet (first | (go_at_call 23; (with_reducible refine (sexp_Parse.calls _ _ l0 t395 t396 t397 t398 t399 _ ?side1 ?side2 A2.out).mono ?_); (case side1 => repeat (first | exact HR0.out | (with_reducible refine Kd.C_alloc ?_ _) | (with_reducible refine Kd.C_drewN ?_ _) | (with_reducible refine Kd.C_drew ?_))); (case side2 => exact HC0.out); rintro e w70 ⟨v400, v402, rfl, ho0, ho1, hb⟩; have n0_ := Aside0.mk (Kd.S_lower ho0 (below_size (by repeat (first | (with_reducible first | exact HB.out | apply below_alloc | apply pw_below_drewN | apply below_drew1) | exact HB.out)))); have n1_ := Aside0.mk (Kd.R_lower ho1 (below_size (by repeat (first | (with_reducible first | exact HB.out | apply below_alloc | apply pw_below_drewN | apply below_drew1) | exact HB.out)))); have n2_ := Aside0.mk (below_step (by repeat (first | (with_reducible first | exact HB.out | apply below_alloc | apply pw_below_drewN | apply below_drew1) | exact HB.out)) hb); clear HB; have HO401 := n0_; have HO403 := n1_; have HB := n2_; clear n0_ n1_ n2_; (try clear hb); (try clear hb2); (try clear hk); (try clear hi); (try clear ho0); (try clear ho1); obtain ⟨Ao71, co71, eo71⟩ := Kd.S_slice HO401.out; subst eo71; obtain ⟨Ao72, co72, eo72⟩ := Kd.R_slice HO403.out; subst eo72)); try go_wp2_with (first | (go_at_call 23; (with_reducible refine (sexp_Parse.calls _ _ l0 t395 t396 t397 t398 t399 _ ?side1 ?side2 A2.out).mono ?_); (case side1 => repeat (first | exact HR0.out | (with_reducible refine Kd.C_alloc ?_ _) | (with_reducible refine Kd.C_drewN ?_ _) | (with_reducible refine Kd.C_drew ?_))); (case side2 => exact HC0.out); rintro e w70 ⟨v400, v402, rfl, ho0, ho1, hb⟩; have n0_ := Aside0.mk (Kd.S_lower ho0 (below_size (by repeat (first | (with_reducible first | exact HB.out | apply below_alloc | apply pw_below_drewN | apply below_drew1) | exact HB.out)))); have n1_ := Aside0.mk (Kd.R_lower ho1 (below_size (by repeat (first | (with_reducible first | exact HB.out | apply below_alloc | apply pw_below_drewN | apply below_drew1) | exact HB.out)))); have n2_ := Aside0.mk (below_step (by repeat (first | (with_reducible first | exact HB.out | apply below_alloc | apply pw_below_drewN | apply below_drew1) | exact HB.out)) hb); clear HB; have HO401 := n0_; have HO403 := n1_; have HB := n2_; clear n0_ n1_ n2_; (try clear hb); (try clear hb2); (try clear hk); (try clear hi); (try clear ho0); (try clear ho1); obtain ⟨Ao71, co71, eo71⟩ := Kd.S_slice HO401.out; subst eo71; obtain ⟨Ao72, co72, eo72⟩ := Kd.R_slice HO403.out; subst eo72)))
    go_ret
    exact ⟨by first | rfl | (simp [errW_none, errW_some] <;> rfl) | (simp [*, errW_none, errW_some] <;> rfl), by repeat (first | (with_reducible first | exact HB.out | apply below_alloc | apply pw_below_drewN | apply below_drew1) | exact HB.out)⟩
  ·rw [if_neg c63] at H
   have c63b0 : ((t395.length : Int) == 0) = false := beq_eq_false_iff_ne.mpr c63
   have c63b1 : ((t395.length : Int) != 0) = true := bne_iff_ne.mpr c63
   have c63b2 : ¬ (t395 = []) := fun h_ => c63 (by rw [h_]; rfl)
   obtain rfl := Option.some.inj H
   go_enter Tryd.func13, Tryd.ntmps13
   go_wp2_with (first | (go_at_call 23; (with_reducible refine (sexp_Parse.calls _ _ l0 t395 t396 t397 t398 t399 _ ?side1 ?side2 A2.out).mono ?_); (case side1 => repeat (first | exact HR0.out | (with_reducible refine Kd.C_alloc ?_ _) | (with_reducible refine Kd.C_drewN ?_ _) | (with_reducible refine Kd.C_drew ?_))); (case side2 => exact HC0.out); rintro e w73 ⟨v400, v402, rfl, ho0, ho1, hb⟩; have n0_ := Aside0.mk (Kd.S_lower ho0 (below_size (by repeat (first | (with_reducible first | exact HB.out | apply below_alloc | apply pw_below_drewN | apply below_drew1) | exact HB.out)))); have n1_ := Aside0.mk (Kd.R_lower ho1 (below_size (by repeat (first | (with_reducible first | exact HB.out | apply below_alloc | apply pw_below_drewN | apply below_drew1) | exact HB.out)))); have n2_ := Aside0.mk (below_step (by repeat (first | (with_reducible first | exact HB.out | apply below_alloc | apply pw_below_drewN | apply below_drew1) | exact HB.out)) hb); clear HB; have HO401 := n0_; have HO403 := n1_; have HB := n2_; clear n0_ n1_ n2_; (try clear hb); (try clear hb2); (try clear hk); (try clear hi); (try clear ho0); (try clear ho1); obtain ⟨Ao74, co74, eo74⟩ := Kd.S_slice HO401.out; subst eo74))
   repeat (go_quiet (first | (go_at_call 23; (with_reducible refine (sexp_Parse.calls _ _ l0 t395 t396 t397 t398 t399 _ ?side1 ?side2 A2.out).mono ?_); (case side1 => repeat (first | exact HR0.out | (with_reducible refine Kd.C_alloc ?_ _) | (with_reducible refine Kd.C_drewN ?_ _) | (with_reducible refine Kd.C_drew ?_))); (case side2 => exact HC0.out); rintro e w73 ⟨v400, v402, rfl, ho0, ho1, hb⟩; have n0_ := Aside0.mk (Kd.S_lower ho0 (below_size (by repeat (first | (with_reducible first | exact HB.out | apply below_alloc | apply pw_below_drewN | apply below_drew1) | exact HB.out)))); have n1_ := Aside0.mk (Kd.R_lower ho1 (below_size (by repeat (first | (with_reducible first | exact HB.out | apply below_alloc | apply pw_below_drewN | apply below_drew1) | exact HB.out)))); have n2_ := Aside0.mk (below_step (by repeat (first | (with_reducible first | exact HB.out | apply below_alloc | apply pw_below_drewN | apply below_drew1) | exact HB.out)) hb); clear HB; have HO401 := n0_; have HO403 := n1_; have HB := n2_; clear n0_ n1_ n2_; (try clear hb); (try clear hb2); (try clear hk); (try clear hi); (try clear ho0); (try clear ho1); obtain ⟨Ao74, co74, eo74⟩ := Kd.S_slice HO401.out; subst eo74)); try go_wp2_with (first | (go_at_call 23; (with_reducible refine (sexp_Parse.calls _ _ l0 t395 t396 t397 t398 t399 _ ?side1 ?side2 A2.out).mono ?_); (case side1 => repeat (first | exact HR0.out | (with_reducible refine Kd.C_alloc ?_ _) | (with_reducible refine Kd.C_drewN ?_ _) | (with_reducible refine Kd.C_drew ?_))); (case side2 => exact HC0.out); rintro e w73 ⟨v400, v402, rfl, ho0, ho1, hb⟩; have n0_ := Aside0.mk (Kd.S_lower ho0 (below_size (by repeat (first | (with_reducible first | exact HB.out | apply below_alloc | apply pw_below_drewN | apply below_drew1) | exact HB.out)))); have n1_ := Aside0.mk (Kd.R_lower ho1 (below_size (by repeat (first | (with_reducible first | exact HB.out | apply below_alloc | apply pw_below_drewN | apply below_drew1) | exact HB.out)))); have n2_ := Aside0.mk (below_step (by repeat (first | (with_reducible first | exact HB.out | apply below_alloc | apply pw_below_drewN | apply below_drew1) | exact HB.out)) hb); clear HB; have HO401 := n0_; have HO403 := n1_; have HB := n2_; clear n0_ n1_ n2_; (try clear hb); (try clear hb2); (try clear hk); (try clear hi); (try clear ho0); (try clear ho1); obtain ⟨Ao74, co74, eo74⟩ := Kd.S_slice HO401.out; subst eo74)))
   go_ret
   exact ⟨by first | rfl | (simp [errW_none, errW_some] <;> rfl) | (simp [*, errW_none, errW_some] <;> rfl), by repeat (first | (with_reducible first | exact HB.out | apply below_alloc | apply pw_below_drewN | apply below_drew1) | exact HB.out)⟩

end Go.Proofs.YthklnopfgoekeaaDoor.X
