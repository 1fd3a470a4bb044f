-- written by this session's wip/pr.py, which runs the kit's printer
import Derived.Test.YthklnopfgoekeaaGreatDoorX0
import Derived.Test.YthklnopfgoekeaaGreatDoorX2
import Derived.Test.YthklnopfgoekeaaGreatDoorX4
namespace Go.Proofs.YthklnopfgoekeaaGreatDoor.X
open Go.RowKit Go.Proofs.YthklnopfgoekeaaGreatDoorW.PrintWords Go.Proofs.YthklnopfgoekeaaGreatDoorW.PrintLast Go.Proofs.YthklnopfgoekeaaGreatDoorW.PrintMore
attribute [local go_sem] max2_int min2_int max_two min_two max_three min_three max_four min_four   -- for this text's walks alone
set_option linter.unusedVariables false
set_option linter.unusedSimpArgs false

/-! ### tribunalref06_bare: function 60 -/
mutual
def tribunalref06_bare.j0 : Nat → ByteArray → Bool → Option (Int × ByteArray × Bool × Int × Int)
 | 0, _, _ => none
 | k + 1, x0, x23 => if x23 = true then (if 2 ≤ (x0.size : Int) then ((tribunalref06_small.f k (x0.extract 2 x0.size)).bind fun t524 => (some (5, t524, false, 0, 0))) else (none)) else (if (x0.size : Int) > 2 then (if 0 ≤ 2 then (if 2 ≤ (x0.size : Int) then (if (x0.extract 0 2).toList = ([35, 98] : List UInt8) then ((tribunalref06_all.f k (x0.extract 2 x0.size) 2).bind fun t525 => (tribunalref06_bare.j1 k x0 t525)) else (tribunalref06_bare.j1 k x0 false)) else (none)) else (none)) else (tribunalref06_bare.j1 k x0 false))
def tribunalref06_bare.j1 : Nat → ByteArray → Bool → Option (Int × ByteArray × Bool × Int × Int)
 | 0, _, _ => none
 | k + 1, x0, x40 => if x40 = true then (if 2 ≤ (x0.size : Int) then (some (6, x0.extract 2 x0.size, false, 0, 0)) else (none)) else (if 0 < (x0.size : Int) then (if (bt x0 0) = 58 then (if 1 ≤ (x0.size : Int) then ((tribunalref06_Bytes.f k (x0.extract 1 x0.size)).bind fun t526 => (tribunalref06_bare.j2 k x0 t526)) else (none)) else (tribunalref06_bare.j2 k x0 false)) else (none))
def tribunalref06_bare.j2 : Nat → ByteArray → Bool → Option (Int × ByteArray × Bool × Int × Int)
 | 0, _, _ => none
 | k + 1, x0, x51 => if x51 = true then (if 1 ≤ (x0.size : Int) then (some (9, x0.extract 1 x0.size, false, 0, 0)) else (none)) else (if 0 < (x0.size : Int) then ((tribunalref06_Digit.f (bt x0 0)).bind fun t527 => (if t527 = true then (some (0, (⟨#[]⟩ : ByteArray), false, 0, 0)) else ((tribunalref06_Bytes.f k x0).bind fun t528 => (if t528 = true then (some (8, x0, false, 0, 0)) else (some (0, (⟨#[]⟩ : ByteArray), false, 0, 0)))))) else (none))
end
def tribunalref06_bare.f (k : Nat) (a0 : ByteArray) : Option (Int × ByteArray × Bool × Int × Int) := (tribunalref06_Numeral.f k a0).bind fun t521 => (if t521 = true then (some (3, a0, false, 0, 0)) else ((tribunalref06_Decimal.f k a0).bind fun t522 => (if t522 = true then (some (4, a0, false, 0, 0)) else (if (a0.size : Int) > 2 then (if 0 ≤ 2 then (if 2 ≤ (a0.size : Int) then (if (a0.extract 0 2).toList = ([35, 120] : List UInt8) then ((tribunalref06_all.f k (a0.extract 2 a0.size) 16).bind fun t523 => (tribunalref06_bare.j0 k a0 t523)) else (tribunalref06_bare.j0 k a0 false)) else (none)) else (none)) else (tribunalref06_bare.j0 k a0 false)))))
theorem tribunalref06_bare.mono_l : ∀ k, (∀ y0 y1, LeO (tribunalref06_bare.j0 k y0 y1) (tribunalref06_bare.j0 (k + 1) y0 y1)) ∧ (∀ y0 y1, LeO (tribunalref06_bare.j1 k y0 y1) (tribunalref06_bare.j1 (k + 1) y0 y1)) ∧ (∀ y0 y1, LeO (tribunalref06_bare.j2 k y0 y1) (tribunalref06_bare.j2 (k + 1) y0 y1))
 | 0 => ⟨fun _ _ r h => by simp [tribunalref06_bare.j0] at h, fun _ _ r h => by simp [tribunalref06_bare.j1] at h, fun _ _ r h => by simp [tribunalref06_bare.j2] at h⟩
 | k + 1 => by
  obtain ⟨ih0, ih1, ih2⟩ := tribunalref06_bare.mono_l k
  refine ⟨?_, ?_, ?_⟩
  ·intro y0 y1
   unfold tribunalref06_bare.j0
   repeat' first
   | (with_reducible exact ih1 _ _)
   | (with_reducible exact tribunalref06_all.mono _ _ _)
   | (with_reducible exact tribunalref06_small.mono _ _)
   | (with_reducible exact LeO.refl _)
   | (with_reducible refine LeO.ite ?_ ?_)
   | (with_reducible refine LeO.bind ?_ (fun _ => ?_))
  ·intro y0 y1
   unfold tribunalref06_bare.j1
   repeat' first
   | (with_reducible exact ih2 _ _)
   | (with_reducible exact tribunalref06_Bytes.mono _ _)
   | (with_reducible exact LeO.refl _)
   | (with_reducible refine LeO.ite ?_ ?_)
   | (with_reducible refine LeO.bind ?_ (fun _ => ?_))
  ·intro y0 y1
   unfold tribunalref06_bare.j2
   repeat' first
   | (with_reducible exact tribunalref06_Bytes.mono _ _)
   | (with_reducible exact LeO.refl _)
   | (with_reducible refine LeO.ite ?_ ?_)
   | (with_reducible refine LeO.bind ?_ (fun _ => ?_))
theorem tribunalref06_bare.mono : ∀ a0 k, LeO (tribunalref06_bare.f k a0) (tribunalref06_bare.f (k + 1) a0) := by
 intro a0 k
 obtain ⟨ih0, ih1, ih2⟩ := tribunalref06_bare.mono_l k
 unfold tribunalref06_bare.f
 repeat' first
  | (with_reducible exact ih0 _ _)
  | (with_reducible exact tribunalref06_Decimal.mono _ _)
  | (with_reducible exact tribunalref06_Numeral.mono _ _)
  | (with_reducible exact tribunalref06_all.mono _ _ _)
  | (with_reducible exact LeO.refl _)
  | (with_reducible refine LeO.ite ?_ ?_)
  | (with_reducible refine LeO.bind ?_ (fun _ => ?_))
set_option maxHeartbeats 8000000 in
set_option maxRecDepth 100000 in
theorem tribunalref06_bare.calls (k : Nat) (a0 : ByteArray) (r1 : Int) (r2 : ByteArray) (r3 : Bool) (r4 : Int) (r5 : Int) (w : World) (h : tribunalref06_bare.f k a0 = some (r1, r2, r3, r4, r5)) :
 Calls Tryz.prog 76 #[.string a0] w fun e w' => e = .returned (.agg #[.int .i64 r1, .string r2, .bool r3, .int .i64 r4, .int .i64 r5]) ∧ Below w.heap.size w w' := by
 have hu38 := Tryz.underlying37
 have HB := Aside0.mk (Below.refl w.heap.size w)
 have H : ((tribunalref06_Numeral.f k a0).bind fun t521 => (if t521 = true then (some (3, a0, false, 0, 0)) else ((tribunalref06_Decimal.f k a0).bind fun t522 => (if t522 = true then (some (4, a0, false, 0, 0)) else (if (a0.size : Int) > 2 then (if 0 ≤ 2 then (if 2 ≤ (a0.size : Int) then (if (a0.extract 0 2).toList = ([35, 120] : List UInt8) then ((tribunalref06_all.f k (a0.extract 2 a0.size) 16).bind fun t523 => (tribunalref06_bare.j0 k a0 t523)) else (tribunalref06_bare.j0 k a0 false)) else (none)) else (none)) else (tribunalref06_bare.j0 k a0 false)))))) = some (r1, r2, r3, r4, r5) := h
 clear h
 replace H := Option.bind_eq_some_iff.mp H
 obtain ⟨t521, A20, H⟩ := H
 replace H : (if t521 = true then (some (3, a0, false, 0, 0)) else ((tribunalref06_Decimal.f k a0).bind fun t522 => (if t522 = true then (some (4, a0, false, 0, 0)) else (if (a0.size : Int) > 2 then (if 0 ≤ 2 then (if 2 ≤ (a0.size : Int) then (if (a0.extract 0 2).toList = ([35, 120] : List UInt8) then ((tribunalref06_all.f k (a0.extract 2 a0.size) 16).bind fun t523 => (tribunalref06_bare.j0 k a0 t523)) else (tribunalref06_bare.j0 k a0 false)) else (none)) else (none)) else (tribunalref06_bare.j0 k a0 false))))) = some (r1, r2, r3, r4, r5) := H
 have A2 := Aside0.mk A20
 clear A20
 by_cases c3 : t521 = true
 ·subst c3
  have H1 : (some (3, a0, false, 0, 0)) = some (r1, r2, r3, r4, r5) := by rw [if_pos rfl] at H; exact H
  clear H
  have H := H1
  clear H1
  simp only [Option.some.injEq, Prod.mk.injEq] at H
  obtain ⟨rfl, rfl, rfl, rfl, rfl⟩ := H
  go_enter Tryz.func76, Tryz.ntmps76
  go_wp2_with (first | ((with_reducible refine gate_dst (N := 2) rfl ?_); refine box_event ?hg (N := 2) ?hd (cs := #[.int .i64 0, .string (⟨#[]⟩ : ByteArray), .bool false, .int .i64 0, .int .i64 0]) (t := 37) ?hr ?_; (case hd => rfl); (case hg => rfl); (case hr => ((go_simp; done))); intro gb520 hg w4 hbox hb; have n0_ := Aside0.mk (below_step (by exact HB.out) hb); have n1_ := Aside0.mk (hbox); have n2_ := Aside0.mk ((by rw [hg]; exact (below_size (by exact HB.out)) : w.heap.size ≤ gb520)); have n3_ := Aside0.mk ((by rw [hg]; exact (below_size (by exact HB.out)) : w.heap.size ≤ gb520)); clear HB; have HB := n0_; have BK520 := n1_; have GW520 := n2_; have GE520 := n3_; clear n0_ n1_ n2_ n3_; clear hb hbox hg) | ((with_reducible refine gate_callee (f := 98) rfl ?_); refine goesL_ (some 4) rfl rfl Tryz.func98 (by kernel_rfl) rfl #[.string a0] rfl (by (try simp only [List.map_toArray, List.map_cons, List.map_nil]); rfl) ?_; (with_reducible refine (tribunalref06_Numeral.calls k a0 true _ A2.out).mono ?_); rintro e w' ⟨rfl, ⟨nd, rfl⟩⟩; refine ⟨_, rfl, ?_⟩; (try (rw [drewN_self w4]; generalize hq_ : World.drewN w4 _ = w4; have n0_ : Aside0 (w4.heap[gb520]? = some (.cells #[.int .i64 0, .string (⟨#[]⟩ : ByteArray), .bool false, .int .i64 0, .int .i64 0] 37 (0, 0))) := ⟨by rw [← hq_]; exact (by (with_reducible repeat (refine blk_drewN ?_ _)); exact BK520.out)⟩; have n1_ : Aside0 (Below w.heap.size w w4) := ⟨by rw [← hq_]; exact (by repeat ((with_reducible first | exact HB.out | apply pw_below_drewN)))⟩; clear BK520 HB hq_; have BK520 := n0_; have HB := n1_; clear n0_ n1_)); have hcz5_0 : w4.cell? ⟨gb520, 0, none⟩ = some (.int .i64 0) := (blk_cell BK520.out 0).trans rfl; have hcz5_1 : w4.cell? ⟨gb520, 1, none⟩ = some (.string (⟨#[]⟩ : ByteArray)) := (blk_cell BK520.out 1).trans rfl; have hcz5_2 : w4.cell? ⟨gb520, 2, none⟩ = some (.bool false) := (blk_cell BK520.out 2).trans rfl; have hcz5_3 : w4.cell? ⟨gb520, 3, none⟩ = some (.int .i64 0) := (blk_cell BK520.out 3).trans rfl; have hcz5_4 : w4.cell? ⟨gb520, 4, none⟩ = some (.int .i64 0) := (blk_cell BK520.out 4).trans rfl; have hfz5_0 := blk_frozen BK520.out 0; have hfz5_1 := blk_frozen BK520.out 1; have hfz5_2 := blk_frozen BK520.out 2; have hfz5_3 := blk_frozen BK520.out 3; have hfz5_4 := blk_frozen BK520.out 4))
  refine bodyPost_ret (results_cell_row rfl _ _ gb520 37 #[.int .i64 3, .string a0, .bool false, .int .i64 0, .int .i64 0] (0, 0) _ rfl (by refine blk_put (cs := #[.int .i64 3, .string a0, .bool false, .int .i64 0, .int .i64 0]) ?_ 4 _ rfl; refine blk_put (cs := #[.int .i64 3, .string a0, .bool false, .int .i64 0, .int .i64 0]) ?_ 3 _ rfl; refine blk_put (cs := #[.int .i64 3, .string a0, .bool false, .int .i64 0, .int .i64 0]) ?_ 2 _ rfl; refine blk_put (cs := #[.int .i64 3, .string (⟨#[]⟩ : ByteArray), .bool false, .int .i64 0, .int .i64 0]) ?_ 1 _ rfl; refine blk_put (cs := #[.int .i64 0, .string (⟨#[]⟩ : ByteArray), .bool false, .int .i64 0, .int .i64 0]) ?_ 0 _ rfl; exact BK520.out) Tryz.underlying37 rfl (by kernel_rfl)) rfl ?_
  exact ⟨by rfl, by repeat ((with_reducible first | exact HB.out | refine below_set ?_ GE520.out))⟩
 ·replace c3 := Bool.eq_false_iff.mpr c3
  subst c3
  have H1 : ((tribunalref06_Decimal.f k a0).bind fun t522 => (if t522 = true then (some (4, a0, false, 0, 0)) else (if (a0.size : Int) > 2 then (if 0 ≤ 2 then (if 2 ≤ (a0.size : Int) then (if (a0.extract 0 2).toList = ([35, 120] : List UInt8) then ((tribunalref06_all.f k (a0.extract 2 a0.size) 16).bind fun t523 => (tribunalref06_bare.j0 k a0 t523)) else (tribunalref06_bare.j0 k a0 false)) else (none)) else (none)) else (tribunalref06_bare.j0 k a0 false)))) = some (r1, r2, r3, r4, r5) := by rw [if_neg (show ¬ (false = true) by decide)] at H; exact H
  clear H
  have H := H1
  clear H1
  replace H := Option.bind_eq_some_iff.mp H
  obtain ⟨t522, A60, H⟩ := H
  replace H : (if t522 = true then (some (4, a0, false, 0, 0)) else (if (a0.size : Int) > 2 then (if 0 ≤ 2 then (if 2 ≤ (a0.size : Int) then (if (a0.extract 0 2).toList = ([35, 120] : List UInt8) then ((tribunalref06_all.f k (a0.extract 2 a0.size) 16).bind fun t523 => (tribunalref06_bare.j0 k a0 t523)) else (tribunalref06_bare.j0 k a0 false)) else (none)) else (none)) else (tribunalref06_bare.j0 k a0 false))) = some (r1, r2, r3, r4, r5) := H
  have A6 := Aside0.mk A60
  clear A60
  by_cases c7 : t522 = true
  ·subst c7
   have H1 : (some (4, a0, false, 0, 0)) = some (r1, r2, r3, r4, r5) := by rw [if_pos rfl] at H; exact H
   clear H
   have H := H1
   clear H1
   simp only [Option.some.injEq, Prod.mk.injEq] at H
   obtain ⟨rfl, rfl, rfl, rfl, rfl⟩ := H
   go_enter Tryz.func76, Tryz.ntmps76
   go_wp2_with (first | ((with_reducible refine gate_dst (N := 2) rfl ?_); refine box_event ?hg (N := 2) ?hd (cs := #[.int .i64 0, .string (⟨#[]⟩ : ByteArray), .bool false, .int .i64 0, .int .i64 0]) (t := 37) ?hr ?_; (case hd => rfl); (case hg => rfl); (case hr => ((go_simp; done))); intro gb520 hg w8 hbox hb; have n0_ := Aside0.mk (below_step (by exact HB.out) hb); have n1_ := Aside0.mk (hbox); have n2_ := Aside0.mk ((by rw [hg]; exact (below_size (by exact HB.out)) : w.heap.size ≤ gb520)); have n3_ := Aside0.mk ((by rw [hg]; exact (below_size (by exact HB.out)) : w.heap.size ≤ gb520)); clear HB; have HB := n0_; have BK520 := n1_; have GW520 := n2_; have GE520 := n3_; clear n0_ n1_ n2_ n3_; clear hb hbox hg) | ((with_reducible refine gate_callee (f := 98) rfl ?_); refine goesL_ (some 4) rfl rfl Tryz.func98 (by kernel_rfl) rfl #[.string a0] rfl (by (try simp only [List.map_toArray, List.map_cons, List.map_nil]); rfl) ?_; (with_reducible refine (tribunalref06_Numeral.calls k a0 false _ A2.out).mono ?_); rintro e w' ⟨rfl, ⟨nd, rfl⟩⟩; refine ⟨_, rfl, ?_⟩; (try (rw [drewN_self w8]; generalize hq_ : World.drewN w8 _ = w8; have n0_ : Aside0 (w8.heap[gb520]? = some (.cells #[.int .i64 0, .string (⟨#[]⟩ : ByteArray), .bool false, .int .i64 0, .int .i64 0] 37 (0, 0))) := ⟨by rw [← hq_]; exact (by (with_reducible repeat (refine blk_drewN ?_ _)); exact BK520.out)⟩; have n1_ : Aside0 (Below w.heap.size w w8) := ⟨by rw [← hq_]; exact (by repeat ((with_reducible first | exact HB.out | apply pw_below_drewN)))⟩; clear BK520 HB hq_; have BK520 := n0_; have HB := n1_; clear n0_ n1_))) | ((with_reducible refine gate_callee (f := 99) rfl ?_); refine goesL_ (some 8) rfl rfl Tryz.func99 (by kernel_rfl) rfl #[.string a0] rfl (by (try simp only [List.map_toArray, List.map_cons, List.map_nil]); rfl) ?_; (with_reducible refine (tribunalref06_Decimal.calls k a0 true _ A6.out).mono ?_); rintro e w' ⟨rfl, ⟨nd, rfl⟩⟩; refine ⟨_, rfl, ?_⟩; (try (rw [drewN_self w8]; generalize hq_ : World.drewN w8 _ = w8; have n0_ : Aside0 (w8.heap[gb520]? = some (.cells #[.int .i64 0, .string (⟨#[]⟩ : ByteArray), .bool false, .int .i64 0, .int .i64 0] 37 (0, 0))) := ⟨by rw [← hq_]; exact (by (with_reducible repeat (refine blk_drewN ?_ _)); exact BK520.out)⟩; have n1_ : Aside0 (Below w.heap.size w w8) := ⟨by rw [← hq_]; exact (by repeat ((with_reducible first | exact HB.out | apply pw_below_drewN)))⟩; clear BK520 HB hq_; have BK520 := n0_; have HB := n1_; clear n0_ n1_)); have hcz9_0 : w8.cell? ⟨gb520, 0, none⟩ = some (.int .i64 0) := (blk_cell BK520.out 0).trans rfl; have hcz9_1 : w8.cell? ⟨gb520, 1, none⟩ = some (.string (⟨#[]⟩ : ByteArray)) := (blk_cell BK520.out 1).trans rfl; have hcz9_2 : w8.cell? ⟨gb520, 2, none⟩ = some (.bool false) := (blk_cell BK520.out 2).trans rfl; have hcz9_3 : w8.cell? ⟨gb520, 3, none⟩ = some (.int .i64 0) := (blk_cell BK520.out 3).trans rfl; have hcz9_4 : w8.cell? ⟨gb520, 4, none⟩ = some (.int .i64 0) := (blk_cell BK520.out 4).trans rfl; have hfz9_0 := blk_frozen BK520.out 0; have hfz9_1 := blk_frozen BK520.out 1; have hfz9_2 := blk_frozen BK520.out 2; have hfz9_3 := blk_frozen BK520.out 3; have hfz9_4 := blk_frozen BK520.out 4))
   refine bodyPost_ret (results_cell_row rfl _ _ gb520 37 #[.int .i64 4, .string a0, .bool false, .int .i64 0, .int .i64 0] (0, 0) _ rfl (by refine blk_put (cs := #[.int .i64 4, .string a0, .bool false, .int .i64 0, .int .i64 0]) ?_ 4 _ rfl; refine blk_put (cs := #[.int .i64 4, .string a0, .bool false, .int .i64 0, .int .i64 0]) ?_ 3 _ rfl; refine blk_put (cs := #[.int .i64 4, .string a0, .bool false, .int .i64 0, .int .i64 0]) ?_ 2 _ rfl; refine blk_put (cs := #[.int .i64 4, .string (⟨#[]⟩ : ByteArray), .bool false, .int .i64 0, .int .i64 0]) ?_ 1 _ rfl; refine blk_put (cs := #[.int .i64 0, .string (⟨#[]⟩ : ByteArray), .bool false, .int .i64 0, .int .i64 0]) ?_ 0 _ rfl; exact BK520.out) Tryz.underlying37 rfl (by kernel_rfl)) rfl ?_
   exact ⟨by rfl, by repeat ((with_reducible first | exact HB.out | refine below_set ?_ GE520.out))⟩
  ·replace c7 := Bool.eq_false_iff.mpr c7
   subst c7
   have H1 : (if (a0.size : Int) > 2 then (if 0 ≤ 2 then (if 2 ≤ (a0.size : Int) then (if (a0.extract 0 2).toList = ([35, 120] : List UInt8) then ((tribunalref06_all.f k (a0.extract 2 a0.size) 16).bind fun t523 => (tribunalref06_bare.j0 k a0 t523)) else (tribunalref06_bare.j0 k a0 false)) else (none)) else (none)) else (tribunalref06_bare.j0 k a0 false)) = some (r1, r2, r3, r4, r5) := by rw [if_neg (show ¬ (false = true) by decide)] at H; exact H
   clear H
   have H := H1
   clear H1
   have HC10 := Aside0.mk H
   clear H
   go_enter Tryz.func76, Tryz.ntmps76
   go_upto_region 5 with (first | ((with_reducible refine gate_dst (N := 2) rfl ?_); refine box_event ?hg (N := 2) ?hd (cs := #[.int .i64 0, .string (⟨#[]⟩ : ByteArray), .bool false, .int .i64 0, .int .i64 0]) (t := 37) ?hr ?_; (case hd => rfl); (case hg => rfl); (case hr => ((go_simp; done))); intro gb520 hg w11 hbox hb; have n0_ := Aside0.mk (below_step (by exact HB.out) hb); have n1_ := Aside0.mk (hbox); have n2_ := Aside0.mk ((by rw [hg]; exact (below_size (by exact HB.out)) : w.heap.size ≤ gb520)); have n3_ := Aside0.mk ((by rw [hg]; exact (below_size (by exact HB.out)) : w.heap.size ≤ gb520)); clear HB; have HB := n0_; have BK520 := n1_; have GW520 := n2_; have GE520 := n3_; clear n0_ n1_ n2_ n3_; clear hb hbox hg) | ((with_reducible refine gate_callee (f := 98) rfl ?_); refine goesL_ (some 4) rfl rfl Tryz.func98 (by kernel_rfl) rfl #[.string a0] rfl (by (try simp only [List.map_toArray, List.map_cons, List.map_nil]); rfl) ?_; (with_reducible refine (tribunalref06_Numeral.calls k a0 false _ A2.out).mono ?_); rintro e w' ⟨rfl, ⟨nd, rfl⟩⟩; refine ⟨_, rfl, ?_⟩) | ((with_reducible refine gate_callee (f := 99) rfl ?_); refine goesL_ (some 8) rfl rfl Tryz.func99 (by kernel_rfl) rfl #[.string a0] rfl (by (try simp only [List.map_toArray, List.map_cons, List.map_nil]); rfl) ?_; (with_reducible refine (tribunalref06_Decimal.calls k a0 false _ A6.out).mono ?_); rintro e w' ⟨rfl, ⟨nd, rfl⟩⟩; refine ⟨_, rfl, ?_⟩))
   (try simp only [Act.put, List.setIfInBounds_toArray, List.set_cons_zero, List.set_cons_succ])
   go_cut [23] (fun v23 wc => ∃ (kq : Nat) (x23_9 : Bool), v23 = .bool x23_9 ∧ Aside0 (tribunalref06_bare.j0 kq a0 x23_9 = some (r1, r2, r3, r4, r5)) ∧ Aside0 (kq ≤ k) ∧ Aside0 (wc.heap[gb520]? = some (.cells #[.int .i64 0, .string (⟨#[]⟩ : ByteArray), .bool false, .int .i64 0, .int .i64 0] 37 (0, 0))) ∧ Aside0 (Below w.heap.size w wc))
   case first =>
    have H := HC10.out
    clear HC10
    by_cases c12 : (a0.size : Int) > 2
    ·rw [if_pos c12] at H
     have c12b0 : decide (2 < (a0.size : Int)) = true := decide_eq_true c12
     have c12b1 : decide (2 < a0.size) = true := decide_eq_true (by omega)
     clear c12
     (skip)
     by_cases c13 : 0 ≤ 2
     ·rw [if_pos c13] at H
      have c13b0 := eq_true c13
      have c13b1 : decide (0 ≤ 2) = true := decide_eq_true c13
      clear c13
      by_cases c14 : 2 ≤ (a0.size : Int)
      ·rw [if_pos c14] at H
       have c14b0 := eq_true c14
       have c14b1 : decide (2 ≤ (a0.size : Int)) = true := decide_eq_true c14
       clear c14
       by_cases c15 : (a0.extract 0 2).toList = ([35, 120] : List UInt8)
       ·rw [if_pos c15] at H
        have c15b0 : ((a0.extract 0 2).toList == ([35, 120] : List UInt8)) = true := beq_iff_eq.mpr c15
        have c15b1 : ((a0.extract 0 2).toList != ([35, 120] : List UInt8)) = false := bne_eq_false_iff_eq.mpr c15
        clear c15
        have c16b0 := eq_true (of_decide_eq_true (by assumption) : 2 ≤ (a0.size : Int))
        replace H := Option.bind_eq_some_iff.mp H
        obtain ⟨t523, A170, H⟩ := H
        replace H : (tribunalref06_bare.j0 k a0 t523) = some (r1, r2, r3, r4, r5) := H
        have A17 := Aside0.mk A170
        clear A170
        have H' := Aside0.mk H
        clear H
        go_wp2_with (((go_at_call 100; (with_reducible refine (tribunalref06_all.calls k (a0.extract 2 a0.size) 16 t523 _ A17.out).mono ?_); rintro e w' ⟨rfl, ⟨nd, rfl⟩⟩)))
        go_meet
        case rel => exact ⟨_, (t523), (by rfl), H', ⟨by omega⟩, ⟨by (with_reducible repeat (refine blk_drewN ?_ _)); exact BK520.out⟩, ⟨by repeat ((with_reducible first | exact HB.out | apply pw_below_drewN))⟩⟩
       ·rw [if_neg c15] at H
        have c15b0 : ((a0.extract 0 2).toList == ([35, 120] : List UInt8)) = false := beq_eq_false_iff_ne.mpr c15
        have c15b1 : ((a0.extract 0 2).toList != ([35, 120] : List UInt8)) = true := bne_iff_ne.mpr c15
        have H' := Aside0.mk H
        clear H
        go_wp2
        go_meet
        case rel => exact ⟨_, (false), (by rfl), H', ⟨by omega⟩, ⟨by (with_reducible repeat (refine blk_drewN ?_ _)); exact BK520.out⟩, ⟨by repeat ((with_reducible first | exact HB.out | apply pw_below_drewN))⟩⟩
      ·rw [if_neg c14] at H
       exact absurd H (by simp)
     ·rw [if_neg c13] at H
      exact absurd H (by simp)
    ·rw [if_neg c12] at H
     have c12b0 : decide (2 < (a0.size : Int)) = false := decide_eq_false c12
     have c12b1 : decide (2 < a0.size) = false := decide_eq_false (by omega)
     clear c12
     (skip)
     have H' := Aside0.mk H
     clear H
     go_wp2
     go_meet
     case rel => exact ⟨_, (false), (by rfl), H', ⟨by omega⟩, ⟨by (with_reducible repeat (refine blk_drewN ?_ _)); exact BK520.out⟩, ⟨by repeat ((with_reducible first | exact HB.out | apply pw_below_drewN))⟩⟩
   case rest =>
    clear HC10
    obtain ⟨kq, x23_9, rfl, HA, HJ9, BK520, HB⟩ := hcut
    cases kq with
    | zero => exact absurd HA.out (by simp [tribunalref06_bare.j0])
    | succ kj9 =>
     have H := HA.out
     clear HA
     simp only [tribunalref06_bare.j0] at H
     by_cases c18 : x23_9 = true
     ·subst c18
      have H1 : (if 2 ≤ (a0.size : Int) then ((tribunalref06_small.f kj9 (a0.extract 2 a0.size)).bind fun t524 => (some (5, t524, false, 0, 0))) else (none)) = some (r1, r2, r3, r4, r5) := by rw [if_pos rfl] at H; exact H
      clear H
      have H := H1
      clear H1
      by_cases c19 : 2 ≤ (a0.size : Int)
      ·rw [if_pos c19] at H
       have c19b0 := eq_true c19
       have c19b1 : decide (2 ≤ (a0.size : Int)) = true := decide_eq_true c19
       clear c19
       replace H := Option.bind_eq_some_iff.mp H
       obtain ⟨t524, A200, H⟩ := H
       replace H : (some (5, t524, false, 0, 0)) = some (r1, r2, r3, r4, r5) := H
       have A20 := Aside0.mk A200
       clear A200
       simp only [Option.some.injEq, Prod.mk.injEq] at H
       obtain ⟨rfl, rfl, rfl, rfl, rfl⟩ := H
       go_wp2_with ((((with_reducible refine gate_callee (f := 101) rfl ?_); refine goesL_ (some 26) rfl rfl Tryz.func101 (by kernel_rfl) rfl #[.string (a0.extract 2 a0.size)] rfl (by (try simp only [List.map_toArray, List.map_cons, List.map_nil]); rfl) ?_; (with_reducible refine (tribunalref06_small.calls kj9 (a0.extract 2 a0.size) t524 _ A20.out).mono ?_); rintro e w21 ⟨rfl, hb⟩; refine ⟨_, rfl, ?_⟩; have n0_ := Aside0.mk (blk_below (g := gb520) (o := .cells #[.int .i64 0, .string (⟨#[]⟩ : ByteArray), .bool false, .int .i64 0, .int .i64 0] 37 (0, 0)) (by exact BK520.out) hb); have n1_ := Aside0.mk (below_step (by exact HB.out) hb); clear BK520; clear HB; have BK520 := n0_; have HB := n1_; clear n0_ n1_; (try clear hb); have hcz22_0 : w21.cell? ⟨gb520, 0, none⟩ = some (.int .i64 0) := (blk_cell BK520.out 0).trans rfl; have hcz22_1 : w21.cell? ⟨gb520, 1, none⟩ = some (.string (⟨#[]⟩ : ByteArray)) := (blk_cell BK520.out 1).trans rfl; have hcz22_2 : w21.cell? ⟨gb520, 2, none⟩ = some (.bool false) := (blk_cell BK520.out 2).trans rfl; have hcz22_3 : w21.cell? ⟨gb520, 3, none⟩ = some (.int .i64 0) := (blk_cell BK520.out 3).trans rfl; have hcz22_4 : w21.cell? ⟨gb520, 4, none⟩ = some (.int .i64 0) := (blk_cell BK520.out 4).trans rfl; have hfz22_0 := blk_frozen BK520.out 0; have hfz22_1 := blk_frozen BK520.out 1; have hfz22_2 := blk_frozen BK520.out 2; have hfz22_3 := blk_frozen BK520.out 3; have hfz22_4 := blk_frozen BK520.out 4)))
       refine bodyPost_ret (results_cell_row rfl _ _ gb520 37 #[.int .i64 5, .string t524, .bool false, .int .i64 0, .int .i64 0] (0, 0) _ rfl (by refine blk_put (cs := #[.int .i64 5, .string t524, .bool false, .int .i64 0, .int .i64 0]) ?_ 4 _ rfl; refine blk_put (cs := #[.int .i64 5, .string t524, .bool false, .int .i64 0, .int .i64 0]) ?_ 3 _ rfl; refine blk_put (cs := #[.int .i64 5, .string t524, .bool false, .int .i64 0, .int .i64 0]) ?_ 2 _ rfl; refine blk_put (cs := #[.int .i64 5, .string (⟨#[]⟩ : ByteArray), .bool false, .int .i64 0, .int .i64 0]) ?_ 1 _ rfl; refine blk_put (cs := #[.int .i64 0, .string (⟨#[]⟩ : ByteArray), .bool false, .int .i64 0, .int .i64 0]) ?_ 0 _ rfl; exact BK520.out) Tryz.underlying37 rfl (by kernel_rfl)) rfl ?_
       exact ⟨by rfl, by repeat ((with_reducible first | exact HB.out | refine below_set ?_ GE520.out))⟩
      ·rw [if_neg c19] at H
       exact absurd H (by simp)
     ·replace c18 := Bool.eq_false_iff.mpr c18
      subst c18
      have H1 : (if (a0.size : Int) > 2 then (if 0 ≤ 2 then (if 2 ≤ (a0.size : Int) then (if (a0.extract 0 2).toList = ([35, 98] : List UInt8) then ((tribunalref06_all.f kj9 (a0.extract 2 a0.size) 2).bind fun t525 => (tribunalref06_bare.j1 kj9 a0 t525)) else (tribunalref06_bare.j1 kj9 a0 false)) else (none)) else (none)) else (tribunalref06_bare.j1 kj9 a0 false)) = some (r1, r2, r3, r4, r5) := by rw [if_neg (show ¬ (false = true) by decide)] at H; exact H
      clear H
      have H := H1
      clear H1
      have HC23 := Aside0.mk H
      clear H
      go_upto_region 7 with (fail)
      go_cut [40] (fun v40 wc => ∃ (kq : Nat) (x40_22 : Bool), v40 = .bool x40_22 ∧ Aside0 (tribunalref06_bare.j1 kq a0 x40_22 = some (r1, r2, r3, r4, r5)) ∧ Aside0 (kq ≤ kj9) ∧ Aside0 (wc.heap[gb520]? = some (.cells #[.int .i64 0, .string (⟨#[]⟩ : ByteArray), .bool false, .int .i64 0, .int .i64 0] 37 (0, 0))) ∧ Aside0 (Below w.heap.size w wc))
      case first =>
       have H := HC23.out
       clear HC23
       by_cases c24 : (a0.size : Int) > 2
       ·rw [if_pos c24] at H
        have c24b0 : decide (2 < (a0.size : Int)) = true := decide_eq_true c24
        have c24b1 : decide (2 < a0.size) = true := decide_eq_true (by omega)
        clear c24
        (skip)
        by_cases c25 : 0 ≤ 2
        ·rw [if_pos c25] at H
         have c25b0 := eq_true c25
         have c25b1 : decide (0 ≤ 2) = true := decide_eq_true c25
         clear c25
         by_cases c26 : 2 ≤ (a0.size : Int)
         ·rw [if_pos c26] at H
          have c26b0 := eq_true c26
          have c26b1 : decide (2 ≤ (a0.size : Int)) = true := decide_eq_true c26
          clear c26
          by_cases c27 : (a0.extract 0 2).toList = ([35, 98] : List UInt8)
          ·rw [if_pos c27] at H
           have c27b0 : ((a0.extract 0 2).toList == ([35, 98] : List UInt8)) = true := beq_iff_eq.mpr c27
           have c27b1 : ((a0.extract 0 2).toList != ([35, 98] : List UInt8)) = false := bne_eq_false_iff_eq.mpr c27
           clear c27
           have c28b0 := eq_true (of_decide_eq_true (by assumption) : 2 ≤ (a0.size : Int))
           replace H := Option.bind_eq_some_iff.mp H
           obtain ⟨t525, A290, H⟩ := H
           replace H : (tribunalref06_bare.j1 kj9 a0 t525) = some (r1, r2, r3, r4, r5) := H
           have A29 := Aside0.mk A290
           clear A290
           have H' := Aside0.mk H
           clear H
           go_wp2_with (((go_at_call 100; (with_reducible refine (tribunalref06_all.calls kj9 (a0.extract 2 a0.size) 2 t525 _ A29.out).mono ?_); rintro e w' ⟨rfl, ⟨nd, rfl⟩⟩)))
           go_meet
           case rel => exact ⟨_, (t525), (by rfl), H', ⟨by have := HJ9.out; omega⟩, ⟨by (with_reducible repeat (refine blk_drewN ?_ _)); exact BK520.out⟩, ⟨by repeat ((with_reducible first | exact HB.out | apply pw_below_drewN))⟩⟩
          ·rw [if_neg c27] at H
           have c27b0 : ((a0.extract 0 2).toList == ([35, 98] : List UInt8)) = false := beq_eq_false_iff_ne.mpr c27
           have c27b1 : ((a0.extract 0 2).toList != ([35, 98] : List UInt8)) = true := bne_iff_ne.mpr c27
           have H' := Aside0.mk H
           clear H
           go_wp2
           go_meet
           case rel => exact ⟨_, (false), (by rfl), H', ⟨by have := HJ9.out; omega⟩, ⟨by exact BK520.out⟩, ⟨by exact HB.out⟩⟩
         ·rw [if_neg c26] at H
          exact absurd H (by simp)
        ·rw [if_neg c25] at H
         exact absurd H (by simp)
       ·rw [if_neg c24] at H
        have c24b0 : decide (2 < (a0.size : Int)) = false := decide_eq_false c24
        have c24b1 : decide (2 < a0.size) = false := decide_eq_false (by omega)
        clear c24
        (skip)
        have H' := Aside0.mk H
        clear H
        go_wp2
        go_meet
        case rel => exact ⟨_, (false), (by rfl), H', ⟨by have := HJ9.out; omega⟩, ⟨by exact BK520.out⟩, ⟨by exact HB.out⟩⟩
      case rest =>
       clear HC23
       obtain ⟨kq, x40_22, rfl, HA, HJ22, BK520, HB⟩ := hcut
       cases kq with
       | zero => exact absurd HA.out (by simp [tribunalref06_bare.j1])
       | succ kj22 =>
        have H := HA.out
        clear HA
        simp only [tribunalref06_bare.j1] at H
        by_cases c30 : x40_22 = true
        ·subst c30
         have H1 : (if 2 ≤ (a0.size : Int) then (some (6, a0.extract 2 a0.size, false, 0, 0)) else (none)) = some (r1, r2, r3, r4, r5) := by rw [if_pos rfl] at H; exact H
         clear H
         have H := H1
         clear H1
         by_cases c31 : 2 ≤ (a0.size : Int)
         ·rw [if_pos c31] at H
          have c31b0 := eq_true c31
          have c31b1 : decide (2 ≤ (a0.size : Int)) = true := decide_eq_true c31
          clear c31
          simp only [Option.some.injEq, Prod.mk.injEq] at H
          obtain ⟨rfl, rfl, rfl, rfl, rfl⟩ := H
          have hcz32_0 : wc.cell? ⟨gb520, 0, none⟩ = some (.int .i64 0) := (blk_cell BK520.out 0).trans rfl
          have hcz32_1 : wc.cell? ⟨gb520, 1, none⟩ = some (.string (⟨#[]⟩ : ByteArray)) := (blk_cell BK520.out 1).trans rfl
          have hcz32_2 : wc.cell? ⟨gb520, 2, none⟩ = some (.bool false) := (blk_cell BK520.out 2).trans rfl
          have hcz32_3 : wc.cell? ⟨gb520, 3, none⟩ = some (.int .i64 0) := (blk_cell BK520.out 3).trans rfl
          have hcz32_4 : wc.cell? ⟨gb520, 4, none⟩ = some (.int .i64 0) := (blk_cell BK520.out 4).trans rfl
          have hfz32_0 := blk_frozen BK520.out 0
          have hfz32_1 := blk_frozen BK520.out 1
          have hfz32_2 := blk_frozen BK520.out 2
          have hfz32_3 := blk_frozen BK520.out 3
          have hfz32_4 := blk_frozen BK520.out 4
          go_wp2
          refine bodyPost_ret (results_cell_row rfl _ _ gb520 37 #[.int .i64 6, .string (a0.extract 2 a0.size), .bool false, .int .i64 0, .int .i64 0] (0, 0) _ rfl (by refine blk_put (cs := #[.int .i64 6, .string (a0.extract 2 a0.size), .bool false, .int .i64 0, .int .i64 0]) ?_ 4 _ rfl; refine blk_put (cs := #[.int .i64 6, .string (a0.extract 2 a0.size), .bool false, .int .i64 0, .int .i64 0]) ?_ 3 _ rfl; refine blk_put (cs := #[.int .i64 6, .string (a0.extract 2 a0.size), .bool false, .int .i64 0, .int .i64 0]) ?_ 2 _ rfl; refine blk_put (cs := #[.int .i64 6, .string (⟨#[]⟩ : ByteArray), .bool false, .int .i64 0, .int .i64 0]) ?_ 1 _ rfl; refine blk_put (cs := #[.int .i64 0, .string (⟨#[]⟩ : ByteArray), .bool false, .int .i64 0, .int .i64 0]) ?_ 0 _ rfl; exact BK520.out) Tryz.underlying37 rfl (by kernel_rfl)) rfl ?_
          exact ⟨by rfl, by repeat ((with_reducible first | exact HB.out | refine below_set ?_ GE520.out))⟩
         ·rw [if_neg c31] at H
          exact absurd H (by simp)
        ·replace c30 := Bool.eq_false_iff.mpr c30
         subst c30
         have H1 : (if 0 < (a0.size : Int) then (if (bt a0 0) = 58 then (if 1 ≤ (a0.size : Int) then ((tribunalref06_Bytes.f kj22 (a0.extract 1 a0.size)).bind fun t526 => (tribunalref06_bare.j2 kj22 a0 t526)) else (none)) else (tribunalref06_bare.j2 kj22 a0 false)) else (none)) = some (r1, r2, r3, r4, r5) := by rw [if_neg (show ¬ (false = true) by decide)] at H; exact H
         clear H
         have H := H1
         clear H1
         have HC33 := Aside0.mk H
         clear H
         go_upto_region 9 with (fail)
         go_cut [51] (fun v51 wc => ∃ (kq : Nat) (x51_32 : Bool), v51 = .bool x51_32 ∧ Aside0 (tribunalref06_bare.j2 kq a0 x51_32 = some (r1, r2, r3, r4, r5)) ∧ Aside0 (kq ≤ kj22) ∧ Aside0 (wc.heap[gb520]? = some (.cells #[.int .i64 0, .string (⟨#[]⟩ : ByteArray), .bool false, .int .i64 0, .int .i64 0] 37 (0, 0))) ∧ Aside0 (Below w.heap.size w wc))
         case first =>
          have H := HC33.out
          clear HC33
          by_cases c34 : 0 < (a0.size : Int)
          ·rw [if_pos c34] at H
           have c34b0 : decide (0 < (a0.size : Int)) = true := decide_eq_true c34
           have c34b1 : decide (0 < a0.size) = true := decide_eq_true (by omega)
           clear c34
           (skip)
           by_cases c36 : (bt a0 0) = 58
           ·rw [if_pos c36] at H
            have c36b0 : ((bt a0 0) == 58) = true := beq_iff_eq.mpr c36
            have c36b1 : ((bt a0 0) != 58) = false := bne_eq_false_iff_eq.mpr c36
            clear c36
            by_cases c37 : 1 ≤ (a0.size : Int)
            ·rw [if_pos c37] at H
             have c37b0 := eq_true c37
             have c37b1 : decide (1 ≤ (a0.size : Int)) = true := decide_eq_true c37
             clear c37
             replace H := Option.bind_eq_some_iff.mp H
             obtain ⟨t526, A380, H⟩ := H
             replace H : (tribunalref06_bare.j2 kj22 a0 t526) = some (r1, r2, r3, r4, r5) := H
             have A38 := Aside0.mk A380
             clear A380
             have H' := Aside0.mk H
             clear H
             have p35 : 0 ≤ (0 : Int) := (by omega)
             have q35 : 0 < a0.size := (by have : (0 : Int) < (a0.size : Int) := of_decide_eq_true (by assumption); omega)
             have hx35 : ∀ h : 0 < a0.size, ((a0[0]'h).toNat : Int) = bt a0 0 := bt_at a0 0
             clear p35
             have qi35 : (0 < (a0.size : Int)) = True := eq_true (of_decide_eq_true (by assumption))
             replace q35 := eq_true q35
             go_wp2_with (((go_at_call 102; (with_reducible refine (tribunalref06_Bytes.calls kj22 (a0.extract 1 a0.size) t526 _ A38.out).mono ?_); rintro e w' ⟨rfl, ⟨nd, rfl⟩⟩)))
             go_meet
             case rel => exact ⟨_, (t526), (by rfl), H', ⟨by have := HJ9.out; have := HJ22.out; omega⟩, ⟨by (with_reducible repeat (refine blk_drewN ?_ _)); exact BK520.out⟩, ⟨by repeat ((with_reducible first | exact HB.out | apply pw_below_drewN))⟩⟩
            ·rw [if_neg c37] at H
             exact absurd H (by simp)
           ·rw [if_neg c36] at H
            have c36b0 : ((bt a0 0) == 58) = false := beq_eq_false_iff_ne.mpr c36
            have c36b1 : ((bt a0 0) != 58) = true := bne_iff_ne.mpr c36
            have H' := Aside0.mk H
            clear H
            have p35 : 0 ≤ (0 : Int) := (by omega)
            have q35 : 0 < a0.size := (by have : (0 : Int) < (a0.size : Int) := of_decide_eq_true (by assumption); omega)
            have hx35 : ∀ h : 0 < a0.size, ((a0[0]'h).toNat : Int) = bt a0 0 := bt_at a0 0
            clear p35
            have qi35 : (0 < (a0.size : Int)) = True := eq_true (of_decide_eq_true (by assumption))
            replace q35 := eq_true q35
            go_wp2
            go_meet
            case rel => exact ⟨_, (false), (by rfl), H', ⟨by have := HJ9.out; have := HJ22.out; omega⟩, ⟨by exact BK520.out⟩, ⟨by exact HB.out⟩⟩
          ·rw [if_neg c34] at H
           exact absurd H (by simp)
         case rest =>
          clear HC33
          obtain ⟨kq, x51_32, rfl, HA, HJ32, BK520, HB⟩ := hcut
          cases kq with
          | zero => exact absurd HA.out (by simp [tribunalref06_bare.j2])
          | succ kj32 =>
           have H := HA.out
           clear HA
           simp only [tribunalref06_bare.j2] at H
           by_cases c39 : x51_32 = true
           ·subst c39
            have H1 : (if 1 ≤ (a0.size : Int) then (some (9, a0.extract 1 a0.size, false, 0, 0)) else (none)) = some (r1, r2, r3, r4, r5) := by rw [if_pos rfl] at H; exact H
            clear H
            have H := H1
            clear H1
            by_cases c40 : 1 ≤ (a0.size : Int)
            ·rw [if_pos c40] at H
             have c40b0 := eq_true c40
             have c40b1 : decide (1 ≤ (a0.size : Int)) = true := decide_eq_true c40
             clear c40
             simp only [Option.some.injEq, Prod.mk.injEq] at H
             obtain ⟨rfl, rfl, rfl, rfl, rfl⟩ := H
             have hcz41_0 : wc.cell? ⟨gb520, 0, none⟩ = some (.int .i64 0) := (blk_cell BK520.out 0).trans rfl
             have hcz41_1 : wc.cell? ⟨gb520, 1, none⟩ = some (.string (⟨#[]⟩ : ByteArray)) := (blk_cell BK520.out 1).trans rfl
             have hcz41_2 : wc.cell? ⟨gb520, 2, none⟩ = some (.bool false) := (blk_cell BK520.out 2).trans rfl
             have hcz41_3 : wc.cell? ⟨gb520, 3, none⟩ = some (.int .i64 0) := (blk_cell BK520.out 3).trans rfl
             have hcz41_4 : wc.cell? ⟨gb520, 4, none⟩ = some (.int .i64 0) := (blk_cell BK520.out 4).trans rfl
             have hfz41_0 := blk_frozen BK520.out 0
             have hfz41_1 := blk_frozen BK520.out 1
             have hfz41_2 := blk_frozen BK520.out 2
             have hfz41_3 := blk_frozen BK520.out 3
             have hfz41_4 := blk_frozen BK520.out 4
             go_wp2
             refine bodyPost_ret (results_cell_row rfl _ _ gb520 37 #[.int .i64 9, .string (a0.extract 1 a0.size), .bool false, .int .i64 0, .int .i64 0] (0, 0) _ rfl (by refine blk_put (cs := #[.int .i64 9, .string (a0.extract 1 a0.size), .bool false, .int .i64 0, .int .i64 0]) ?_ 4 _ rfl; refine blk_put (cs := #[.int .i64 9, .string (a0.extract 1 a0.size), .bool false, .int .i64 0, .int .i64 0]) ?_ 3 _ rfl; refine blk_put (cs := #[.int .i64 9, .string (a0.extract 1 a0.size), .bool false, .int .i64 0, .int .i64 0]) ?_ 2 _ rfl; refine blk_put (cs := #[.int .i64 9, .string (⟨#[]⟩ : ByteArray), .bool false, .int .i64 0, .int .i64 0]) ?_ 1 _ rfl; refine blk_put (cs := #[.int .i64 0, .string (⟨#[]⟩ : ByteArray), .bool false, .int .i64 0, .int .i64 0]) ?_ 0 _ rfl; exact BK520.out) Tryz.underlying37 rfl (by kernel_rfl)) rfl ?_
             exact ⟨by rfl, by repeat ((with_reducible first | exact HB.out | refine below_set ?_ GE520.out))⟩
            ·rw [if_neg c40] at H
             exact absurd H (by simp)
           ·replace c39 := Bool.eq_false_iff.mpr c39
            subst c39
            have H1 : (if 0 < (a0.size : Int) then ((tribunalref06_Digit.f (bt a0 0)).bind fun t527 => (if t527 = true then (some (0, (⟨#[]⟩ : ByteArray), false, 0, 0)) else ((tribunalref06_Bytes.f kj32 a0).bind fun t528 => (if t528 = true then (some (8, a0, false, 0, 0)) else (some (0, (⟨#[]⟩ : ByteArray), false, 0, 0)))))) else (none)) = some (r1, r2, r3, r4, r5) := by rw [if_neg (show ¬ (false = true) by decide)] at H; exact H
            clear H
            have H := H1
            clear H1
            by_cases c42 : 0 < (a0.size : Int)
            ·rw [if_pos c42] at H
             have c42b0 : decide (0 < (a0.size : Int)) = true := decide_eq_true c42
             have c42b1 : decide (0 < a0.size) = true := decide_eq_true (by omega)
             clear c42
             replace H := Option.bind_eq_some_iff.mp H
             obtain ⟨t527, A440, H⟩ := H
             replace H : (if t527 = true then (some (0, (⟨#[]⟩ : ByteArray), false, 0, 0)) else ((tribunalref06_Bytes.f kj32 a0).bind fun t528 => (if t528 = true then (some (8, a0, false, 0, 0)) else (some (0, (⟨#[]⟩ : ByteArray), false, 0, 0))))) = some (r1, r2, r3, r4, r5) := H
             have A44 := Aside0.mk A440
             clear A440
             by_cases c45 : t527 = true
             ·subst c45
              have H1 : (some (0, (⟨#[]⟩ : ByteArray), false, 0, 0)) = some (r1, r2, r3, r4, r5) := by rw [if_pos rfl] at H; exact H
              clear H
              have H := H1
              clear H1
              simp only [Option.some.injEq, Prod.mk.injEq] at H
              obtain ⟨rfl, rfl, rfl, rfl, rfl⟩ := H
              have p43 : 0 ≤ (0 : Int) := (by omega)
              have q43 : 0 < a0.size := (by have : (0 : Int) < (a0.size : Int) := of_decide_eq_true (by assumption); omega)
              have hx43 : ∀ h : 0 < a0.size, ((a0[0]'h).toNat : Int) = bt a0 0 := bt_at a0 0
              clear p43
              have qi43 : (0 < (a0.size : Int)) = True := eq_true (of_decide_eq_true (by assumption))
              replace q43 := eq_true q43
              go_wp2_with ((((with_reducible refine gate_callee (f := 103) rfl ?_); refine goesL_ (some 57) rfl rfl Tryz.func103 (by kernel_rfl) rfl #[.int .u8 (bt a0 0)] rfl (by (try simp only [List.map_toArray, List.map_cons, List.map_nil]); rfl) ?_; (with_reducible refine (tribunalref06_Digit.calls (bt a0 0) true _ A44.out).mono ?_); rintro e w' ⟨rfl, ⟨nd, rfl⟩⟩; refine ⟨_, rfl, ?_⟩; (try (rw [drewN_self wc]; generalize hq_ : World.drewN wc _ = wc; have n0_ : Aside0 (wc.heap[gb520]? = some (.cells #[.int .i64 0, .string (⟨#[]⟩ : ByteArray), .bool false, .int .i64 0, .int .i64 0] 37 (0, 0))) := ⟨by rw [← hq_]; exact (by (with_reducible repeat (refine blk_drewN ?_ _)); exact BK520.out)⟩; have n1_ : Aside0 (Below w.heap.size w wc) := ⟨by rw [← hq_]; exact (by repeat ((with_reducible first | exact HB.out | apply pw_below_drewN)))⟩; clear BK520 HB hq_; have BK520 := n0_; have HB := n1_; clear n0_ n1_)); have hcz46_0 : wc.cell? ⟨gb520, 0, none⟩ = some (.int .i64 0) := (blk_cell BK520.out 0).trans rfl; have hcz46_1 : wc.cell? ⟨gb520, 1, none⟩ = some (.string (⟨#[]⟩ : ByteArray)) := (blk_cell BK520.out 1).trans rfl; have hcz46_2 : wc.cell? ⟨gb520, 2, none⟩ = some (.bool false) := (blk_cell BK520.out 2).trans rfl; have hcz46_3 : wc.cell? ⟨gb520, 3, none⟩ = some (.int .i64 0) := (blk_cell BK520.out 3).trans rfl; have hcz46_4 : wc.cell? ⟨gb520, 4, none⟩ = some (.int .i64 0) := (blk_cell BK520.out 4).trans rfl; have hfz46_0 := blk_frozen BK520.out 0; have hfz46_1 := blk_frozen BK520.out 1; have hfz46_2 := blk_frozen BK520.out 2; have hfz46_3 := blk_frozen BK520.out 3; have hfz46_4 := blk_frozen BK520.out 4)))
              refine bodyPost_ret (results_cell_row rfl _ _ gb520 37 #[.int .i64 0, .string (⟨#[]⟩ : ByteArray), .bool false, .int .i64 0, .int .i64 0] (0, 0) _ rfl (by refine blk_put (cs := #[.int .i64 0, .string (⟨#[]⟩ : ByteArray), .bool false, .int .i64 0, .int .i64 0]) ?_ 4 _ rfl; refine blk_put (cs := #[.int .i64 0, .string (⟨#[]⟩ : ByteArray), .bool false, .int .i64 0, .int .i64 0]) ?_ 3 _ rfl; refine blk_put (cs := #[.int .i64 0, .string (⟨#[]⟩ : ByteArray), .bool false, .int .i64 0, .int .i64 0]) ?_ 2 _ rfl; refine blk_put (cs := #[.int .i64 0, .string (⟨#[]⟩ : ByteArray), .bool false, .int .i64 0, .int .i64 0]) ?_ 1 _ rfl; refine blk_put (cs := #[.int .i64 0, .string (⟨#[]⟩ : ByteArray), .bool false, .int .i64 0, .int .i64 0]) ?_ 0 _ rfl; exact BK520.out) Tryz.underlying37 rfl (by kernel_rfl)) rfl ?_
              exact ⟨by rfl, by repeat ((with_reducible first | exact HB.out | refine below_set ?_ GE520.out))⟩
             ·replace c45 := Bool.eq_false_iff.mpr c45
              subst c45
              have H1 : ((tribunalref06_Bytes.f kj32 a0).bind fun t528 => (if t528 = true then (some (8, a0, false, 0, 0)) else (some (0, (⟨#[]⟩ : ByteArray), false, 0, 0)))) = some (r1, r2, r3, r4, r5) := by rw [if_neg (show ¬ (false = true) by decide)] at H; exact H
              clear H
              have H := H1
              clear H1
              replace H := Option.bind_eq_some_iff.mp H
              obtain ⟨t528, A470, H⟩ := H
              replace H : (if t528 = true then (some (8, a0, false, 0, 0)) else (some (0, (⟨#[]⟩ : ByteArray), false, 0, 0))) = some (r1, r2, r3, r4, r5) := H
              have A47 := Aside0.mk A470
              clear A470
              by_cases c48 : t528 = true
              ·subst c48
               have H1 : (some (8, a0, false, 0, 0)) = some (r1, r2, r3, r4, r5) := by rw [if_pos rfl] at H; exact H
               clear H
               have H := H1
               clear H1
               simp only [Option.some.injEq, Prod.mk.injEq] at H
               obtain ⟨rfl, rfl, rfl, rfl, rfl⟩ := H
               have p43 : 0 ≤ (0 : Int) := (by omega)
               have q43 : 0 < a0.size := (by have : (0 : Int) < (a0.size : Int) := of_decide_eq_true (by assumption); omega)
               have hx43 : ∀ h : 0 < a0.size, ((a0[0]'h).toNat : Int) = bt a0 0 := bt_at a0 0
               clear p43
               have qi43 : (0 < (a0.size : Int)) = True := eq_true (of_decide_eq_true (by assumption))
               replace q43 := eq_true q43
               go_wp2_with (first | ((with_reducible refine gate_callee (f := 103) rfl ?_); refine goesL_ (some 57) rfl rfl Tryz.func103 (by kernel_rfl) rfl #[.int .u8 (bt a0 0)] rfl (by (try simp only [List.map_toArray, List.map_cons, List.map_nil]); rfl) ?_; (with_reducible refine (tribunalref06_Digit.calls (bt a0 0) false _ A44.out).mono ?_); rintro e w' ⟨rfl, ⟨nd, rfl⟩⟩; refine ⟨_, rfl, ?_⟩; (try (rw [drewN_self wc]; generalize hq_ : World.drewN wc _ = wc; have n0_ : Aside0 (wc.heap[gb520]? = some (.cells #[.int .i64 0, .string (⟨#[]⟩ : ByteArray), .bool false, .int .i64 0, .int .i64 0] 37 (0, 0))) := ⟨by rw [← hq_]; exact (by (with_reducible repeat (refine blk_drewN ?_ _)); exact BK520.out)⟩; have n1_ : Aside0 (Below w.heap.size w wc) := ⟨by rw [← hq_]; exact (by repeat ((with_reducible first | exact HB.out | apply pw_below_drewN)))⟩; clear BK520 HB hq_; have BK520 := n0_; have HB := n1_; clear n0_ n1_))) | (go_at_call 102; (with_reducible refine (tribunalref06_Bytes.calls kj32 a0 true _ A47.out).mono ?_); rintro e w' ⟨rfl, ⟨nd, rfl⟩⟩; (try (rw [drewN_self wc]; generalize hq_ : World.drewN wc _ = wc; have n0_ : Aside0 (wc.heap[gb520]? = some (.cells #[.int .i64 0, .string (⟨#[]⟩ : ByteArray), .bool false, .int .i64 0, .int .i64 0] 37 (0, 0))) := ⟨by rw [← hq_]; exact (by (with_reducible repeat (refine blk_drewN ?_ _)); exact BK520.out)⟩; have n1_ : Aside0 (Below w.heap.size w wc) := ⟨by rw [← hq_]; exact (by repeat ((with_reducible first | exact HB.out | apply pw_below_drewN)))⟩; clear BK520 HB hq_; have BK520 := n0_; have HB := n1_; clear n0_ n1_)); have hcz49_0 : wc.cell? ⟨gb520, 0, none⟩ = some (.int .i64 0) := (blk_cell BK520.out 0).trans rfl; have hcz49_1 : wc.cell? ⟨gb520, 1, none⟩ = some (.string (⟨#[]⟩ : ByteArray)) := (blk_cell BK520.out 1).trans rfl; have hcz49_2 : wc.cell? ⟨gb520, 2, none⟩ = some (.bool false) := (blk_cell BK520.out 2).trans rfl; have hcz49_3 : wc.cell? ⟨gb520, 3, none⟩ = some (.int .i64 0) := (blk_cell BK520.out 3).trans rfl; have hcz49_4 : wc.cell? ⟨gb520, 4, none⟩ = some (.int .i64 0) := (blk_cell BK520.out 4).trans rfl; have hfz49_0 := blk_frozen BK520.out 0; have hfz49_1 := blk_frozen BK520.out 1; have hfz49_2 := blk_frozen BK520.out 2; have hfz49_3 := blk_frozen BK520.out 3; have hfz49_4 := blk_frozen BK520.out 4))
               refine bodyPost_ret (results_cell_row rfl _ _ gb520 37 #[.int .i64 8, .string a0, .bool false, .int .i64 0, .int .i64 0] (0, 0) _ rfl (by refine blk_put (cs := #[.int .i64 8, .string a0, .bool false, .int .i64 0, .int .i64 0]) ?_ 4 _ rfl; refine blk_put (cs := #[.int .i64 8, .string a0, .bool false, .int .i64 0, .int .i64 0]) ?_ 3 _ rfl; refine blk_put (cs := #[.int .i64 8, .string a0, .bool false, .int .i64 0, .int .i64 0]) ?_ 2 _ rfl; refine blk_put (cs := #[.int .i64 8, .string (⟨#[]⟩ : ByteArray), .bool false, .int .i64 0, .int .i64 0]) ?_ 1 _ rfl; refine blk_put (cs := #[.int .i64 0, .string (⟨#[]⟩ : ByteArray), .bool false, .int .i64 0, .int .i64 0]) ?_ 0 _ rfl; exact BK520.out) Tryz.underlying37 rfl (by kernel_rfl)) rfl ?_
               exact ⟨by rfl, by repeat ((with_reducible first | exact HB.out | refine below_set ?_ GE520.out))⟩
              ·replace c48 := Bool.eq_false_iff.mpr c48
               subst c48
               have H1 : (some (0, (⟨#[]⟩ : ByteArray), false, 0, 0)) = some (r1, r2, r3, r4, r5) := by rw [if_neg (show ¬ (false = true) by decide)] at H; exact H
               clear H
               have H := H1
               clear H1
               simp only [Option.some.injEq, Prod.mk.injEq] at H
               obtain ⟨rfl, rfl, rfl, rfl, rfl⟩ := H
               have p43 : 0 ≤ (0 : Int) := (by omega)
               have q43 : 0 < a0.size := (by have : (0 : Int) < (a0.size : Int) := of_decide_eq_true (by assumption); omega)
               have hx43 : ∀ h : 0 < a0.size, ((a0[0]'h).toNat : Int) = bt a0 0 := bt_at a0 0
               clear p43
               have qi43 : (0 < (a0.size : Int)) = True := eq_true (of_decide_eq_true (by assumption))
               replace q43 := eq_true q43
               go_wp2_with (first | ((with_reducible refine gate_callee (f := 103) rfl ?_); refine goesL_ (some 57) rfl rfl Tryz.func103 (by kernel_rfl) rfl #[.int .u8 (bt a0 0)] rfl (by (try simp only [List.map_toArray, List.map_cons, List.map_nil]); rfl) ?_; (with_reducible refine (tribunalref06_Digit.calls (bt a0 0) false _ A44.out).mono ?_); rintro e w' ⟨rfl, ⟨nd, rfl⟩⟩; refine ⟨_, rfl, ?_⟩; (try (rw [drewN_self wc]; generalize hq_ : World.drewN wc _ = wc; have n0_ : Aside0 (wc.heap[gb520]? = some (.cells #[.int .i64 0, .string (⟨#[]⟩ : ByteArray), .bool false, .int .i64 0, .int .i64 0] 37 (0, 0))) := ⟨by rw [← hq_]; exact (by (with_reducible repeat (refine blk_drewN ?_ _)); exact BK520.out)⟩; have n1_ : Aside0 (Below w.heap.size w wc) := ⟨by rw [← hq_]; exact (by repeat ((with_reducible first | exact HB.out | apply pw_below_drewN)))⟩; clear BK520 HB hq_; have BK520 := n0_; have HB := n1_; clear n0_ n1_))) | (go_at_call 102; (with_reducible refine (tribunalref06_Bytes.calls kj32 a0 false _ A47.out).mono ?_); rintro e w' ⟨rfl, ⟨nd, rfl⟩⟩; (try (rw [drewN_self wc]; generalize hq_ : World.drewN wc _ = wc; have n0_ : Aside0 (wc.heap[gb520]? = some (.cells #[.int .i64 0, .string (⟨#[]⟩ : ByteArray), .bool false, .int .i64 0, .int .i64 0] 37 (0, 0))) := ⟨by rw [← hq_]; exact (by (with_reducible repeat (refine blk_drewN ?_ _)); exact BK520.out)⟩; have n1_ : Aside0 (Below w.heap.size w wc) := ⟨by rw [← hq_]; exact (by repeat ((with_reducible first | exact HB.out | apply pw_below_drewN)))⟩; clear BK520 HB hq_; have BK520 := n0_; have HB := n1_; clear n0_ n1_)); have hcz50_0 : wc.cell? ⟨gb520, 0, none⟩ = some (.int .i64 0) := (blk_cell BK520.out 0).trans rfl; have hcz50_1 : wc.cell? ⟨gb520, 1, none⟩ = some (.string (⟨#[]⟩ : ByteArray)) := (blk_cell BK520.out 1).trans rfl; have hcz50_2 : wc.cell? ⟨gb520, 2, none⟩ = some (.bool false) := (blk_cell BK520.out 2).trans rfl; have hcz50_3 : wc.cell? ⟨gb520, 3, none⟩ = some (.int .i64 0) := (blk_cell BK520.out 3).trans rfl; have hcz50_4 : wc.cell? ⟨gb520, 4, none⟩ = some (.int .i64 0) := (blk_cell BK520.out 4).trans rfl; have hfz50_0 := blk_frozen BK520.out 0; have hfz50_1 := blk_frozen BK520.out 1; have hfz50_2 := blk_frozen BK520.out 2; have hfz50_3 := blk_frozen BK520.out 3; have hfz50_4 := blk_frozen BK520.out 4))
               refine bodyPost_ret (results_cell_row rfl _ _ gb520 37 #[.int .i64 0, .string (⟨#[]⟩ : ByteArray), .bool false, .int .i64 0, .int .i64 0] (0, 0) _ rfl (by refine blk_put (cs := #[.int .i64 0, .string (⟨#[]⟩ : ByteArray), .bool false, .int .i64 0, .int .i64 0]) ?_ 4 _ rfl; refine blk_put (cs := #[.int .i64 0, .string (⟨#[]⟩ : ByteArray), .bool false, .int .i64 0, .int .i64 0]) ?_ 3 _ rfl; refine blk_put (cs := #[.int .i64 0, .string (⟨#[]⟩ : ByteArray), .bool false, .int .i64 0, .int .i64 0]) ?_ 2 _ rfl; refine blk_put (cs := #[.int .i64 0, .string (⟨#[]⟩ : ByteArray), .bool false, .int .i64 0, .int .i64 0]) ?_ 1 _ rfl; refine blk_put (cs := #[.int .i64 0, .string (⟨#[]⟩ : ByteArray), .bool false, .int .i64 0, .int .i64 0]) ?_ 0 _ rfl; exact BK520.out) Tryz.underlying37 rfl (by kernel_rfl)) rfl ?_
               exact ⟨by rfl, by repeat ((with_reducible first | exact HB.out | refine below_set ?_ GE520.out))⟩
            ·rw [if_neg c42] at H
             exact absurd H (by simp)

/-! ### tribunalref06_one: function 33 -/
mutual
def tribunalref06_one.j1 : Nat → ByteArray → Int → Option (Int × ByteArray × Bool × Int × Int × Int × Int)
 | 0, _, _ => none
 | k + 1, x0, x1 => tribunalref06_one.l0 k x0 x1 x1
def tribunalref06_one.l0 : Nat → ByteArray → Int → Int → Option (Int × ByteArray × Bool × Int × Int × Int × Int)
 | 0, _, _, _ => none
 | k + 1, x0, x1, x10 => if x10 < (x0.size : Int) then (if 0 ≤ x10 then ((tribunalref06_ends.f (bt x0 x10)).bind fun t538 => (if t538 = true then (if 0 ≤ x1 then (if x1 ≤ x10 then (if x10 ≤ (x0.size : Int) then ((tribunalref06_bare.f k (x0.extract (x1 : Int).toNat (x10 : Int).toNat)).bind fun bt539 => (if bt539.1 = 0 then (some (bt539.1, bt539.2.1, bt539.2.2.1, bt539.2.2.2.1, bt539.2.2.2.2, 0, 62)) else (some (bt539.1, bt539.2.1, bt539.2.2.1, bt539.2.2.2.1, bt539.2.2.2.2, x10, 0)))) else (none)) else (none)) else (none)) else (tribunalref06_one.l0 k x0 x1 (wrap64 (x10 + 1))))) else (none)) else (if 0 ≤ x1 then (if x1 ≤ x10 then (if x10 ≤ (x0.size : Int) then ((tribunalref06_bare.f k (x0.extract (x1 : Int).toNat (x10 : Int).toNat)).bind fun bt545 => (if bt545.1 = 0 then (some (bt545.1, bt545.2.1, bt545.2.2.1, bt545.2.2.2.1, bt545.2.2.2.2, 0, 62)) else (some (bt545.1, bt545.2.1, bt545.2.2.1, bt545.2.2.2.1, bt545.2.2.2.2, x10, 0)))) else (none)) else (none)) else (none))
def tribunalref06_one.j0 : Nat → ByteArray → Int → Int → Bool → Option (Int × ByteArray × Bool × Int × Int × Int × Int)
 | 0, _, _, _, _ => none
 | k + 1, x0, x1, x7, x27 => if x27 = true then ((tribunalref06_between.f k x0 x1).bind fun bt530 => (if bt530.1 = 0 then (some (bt530.1, bt530.2.1, bt530.2.2.1, bt530.2.2.2.1, bt530.2.2.2.2.1, 0, 61)) else (some (bt530.1, bt530.2.1, bt530.2.2.1, bt530.2.2.2.1, bt530.2.2.2.2.1, bt530.2.2.2.2.2, 0)))) else (if x7 = 35 then (tribunalref06_one.j1 k x0 x1) else (if x7 = 58 then (tribunalref06_one.j1 k x0 x1) else ((tribunalref04_SimpleByte.f k x7).bind fun t537 => (if t537 = true then (tribunalref06_one.j1 k x0 x1) else (some (0, (⟨#[]⟩ : ByteArray), false, 0, 0, 0, 60))))))
end
def tribunalref06_one.f (k : Nat) (a0 : ByteArray) (a1 : Int) : Option (Int × ByteArray × Bool × Int × Int × Int × Int) := if 0 ≤ a1 then (if a1 < (a0.size : Int) then (if (bt a0 a1) = 40 then (some (1, (⟨#[40]⟩ : ByteArray), false, 0, 0, wrap64 (a1 + 1), 0)) else (if (bt a0 a1) = 41 then (some (2, (⟨#[41]⟩ : ByteArray), false, 0, 0, wrap64 (a1 + 1), 0)) else (if (bt a0 a1) = 34 then (tribunalref06_one.j0 k a0 a1 (bt a0 a1) true) else (tribunalref06_one.j0 k a0 a1 (bt a0 a1) ((bt a0 a1) == 124))))) else (none)) else (none)
theorem tribunalref06_one.mono_l : ∀ k, (∀ y0 y1, LeO (tribunalref06_one.j1 k y0 y1) (tribunalref06_one.j1 (k + 1) y0 y1)) ∧ (∀ y0 y1 y2, LeO (tribunalref06_one.l0 k y0 y1 y2) (tribunalref06_one.l0 (k + 1) y0 y1 y2)) ∧ (∀ y0 y1 y2 y3, LeO (tribunalref06_one.j0 k y0 y1 y2 y3) (tribunalref06_one.j0 (k + 1) y0 y1 y2 y3))
 | 0 => ⟨fun _ _ r h => by simp [tribunalref06_one.j1] at h, fun _ _ _ r h => by simp [tribunalref06_one.l0] at h, fun _ _ _ _ r h => by simp [tribunalref06_one.j0] at h⟩
 | k + 1 => by
  obtain ⟨ih0, ih1, ih2⟩ := tribunalref06_one.mono_l k
  refine ⟨?_, ?_, ?_⟩
  ·intro y0 y1
   unfold tribunalref06_one.j1
   repeat' first
   | (with_reducible exact ih1 _ _ _)
  ·intro y0 y1 y2
   unfold tribunalref06_one.l0
   repeat' first
   | (with_reducible exact ih1 _ _ _)
   | (with_reducible exact tribunalref06_bare.mono _ _)
   | (with_reducible exact LeO.refl _)
   | (with_reducible refine LeO.ite ?_ ?_)
   | (with_reducible refine LeO.bind ?_ (fun _ => ?_))
  ·intro y0 y1 y2 y3
   unfold tribunalref06_one.j0
   repeat' first
   | (with_reducible exact ih0 _ _)
   | (with_reducible exact tribunalref04_SimpleByte.mono _ _)
   | (with_reducible exact tribunalref06_between.mono _ _ _)
   | (with_reducible exact LeO.refl _)
   | (with_reducible refine LeO.ite ?_ ?_)
   | (with_reducible refine LeO.bind ?_ (fun _ => ?_))
theorem tribunalref06_one.mono : ∀ a0 a1 k, LeO (tribunalref06_one.f k a0 a1) (tribunalref06_one.f (k + 1) a0 a1) := by
 intro a0 a1 k
 obtain ⟨ih0, ih1, ih2⟩ := tribunalref06_one.mono_l k
 unfold tribunalref06_one.f
 repeat' first
  | (with_reducible exact ih2 _ _ _ _)
  | (with_reducible exact LeO.refl _)
  | (with_reducible refine LeO.ite ?_ ?_)
set_option maxHeartbeats 8000000 in
set_option maxRecDepth 100000 in
theorem tribunalref06_one.calls (k : Nat) (a0 : ByteArray) (a1 : Int) (r1 : Int) (r2 : ByteArray) (r3 : Bool) (r4 : Int) (r5 : Int) (r6 : Int) (r7 : Int) (w : World) (h : tribunalref06_one.f k a0 a1 = some (r1, r2, r3, r4, r5, r6, r7)) :
 Calls Tryz.prog 53 #[.string a0, .int .i64 a1] w fun e w' => e = .returned (.tuple #[.agg #[.int .i64 r1, .string r2, .bool r3, .int .i64 r4, .int .i64 r5], .int .i64 r6, .int .i64 r7]) ∧ Below w.heap.size w w' := by
 have hu38 := Tryz.underlying37
 have HB := Aside0.mk (Below.refl w.heap.size w)
 have H : (if 0 ≤ a1 then (if a1 < (a0.size : Int) then (if (bt a0 a1) = 40 then (some (1, (⟨#[40]⟩ : ByteArray), false, 0, 0, wrap64 (a1 + 1), 0)) else (if (bt a0 a1) = 41 then (some (2, (⟨#[41]⟩ : ByteArray), false, 0, 0, wrap64 (a1 + 1), 0)) else (if (bt a0 a1) = 34 then (tribunalref06_one.j0 k a0 a1 (bt a0 a1) true) else (tribunalref06_one.j0 k a0 a1 (bt a0 a1) ((bt a0 a1) == 124))))) else (none)) else (none)) = some (r1, r2, r3, r4, r5, r6, r7) := h
 clear h
 by_cases c3 : 0 ≤ a1
 ·rw [if_pos c3] at H
  have c3b0 : decide (0 ≤ a1) = true := decide_eq_true c3
  clear c3
  by_cases c4 : a1 < (a0.size : Int)
  ·rw [if_pos c4] at H
   have c4b0 : decide (a1 < (a0.size : Int)) = true := decide_eq_true c4
   clear c4
   have HC6 := Aside0.mk H
   clear H
   go_enter Tryz.func53, Tryz.ntmps53
   go_upto_block 0 with ((((with_reducible refine gate_dst (N := 4) rfl ?_); refine box_event ?hg (N := 4) ?hd (cs := #[.int .i64 0, .string (⟨#[]⟩ : ByteArray), .bool false, .int .i64 0, .int .i64 0]) (t := 37) ?hr ?_; (case hd => rfl); (case hg => rfl); (case hr => ((go_simp; done))); intro gb529 hg w7 hbox hb; have n0_ := Aside0.mk (below_step (by exact HB.out) hb); have n1_ := Aside0.mk (hbox); have n2_ := Aside0.mk ((by rw [hg]; exact (below_size (by exact HB.out)) : w.heap.size ≤ gb529)); have n3_ := Aside0.mk ((by rw [hg]; exact (below_size (by exact HB.out)) : w.heap.size ≤ gb529)); clear HB; have HB := n0_; have BK529 := n1_; have GW529 := n2_; have GE529 := n3_; clear n0_ n1_ n2_ n3_; clear hb hbox hg; have p5 : 0 ≤ (a1 : Int) := of_decide_eq_true (by assumption); have q5 : a1 < (a0.size : Int) := of_decide_eq_true (by assumption); have hx5 := bt_at a0 a1; replace p5 := eq_true p5; replace q5 := eq_true q5)))
   skip
   go_cut [] (fun wc => ∃ (kq : Nat) (x530000_5 : Int) (x530001_5 : ByteArray) (x530002_5 : Bool) (x530003_5 : Int) (x530004_5 : Int), Aside0 (tribunalref06_one.j1 kq a0 a1 = some (r1, r2, r3, r4, r5, r6, r7)) ∧ Aside0 (kq ≤ k) ∧ Aside0 (wc.heap[gb529]? = some (.cells #[.int .i64 x530000_5, .string x530001_5, .bool x530002_5, .int .i64 x530003_5, .int .i64 x530004_5] 37 (0, 0))) ∧ Aside0 (Below w.heap.size w wc))
   case first =>
    have H := HC6.out
    clear HC6
    by_cases c8 : (bt a0 a1) = 40
    ·rw [if_pos c8] at H
     have c8b0 : ((bt a0 a1) == 40) = true := beq_iff_eq.mpr c8
     have c8b1 : ((bt a0 a1) != 40) = false := bne_eq_false_iff_eq.mpr c8
     clear c8
     (skip)
     simp only [Option.some.injEq, Prod.mk.injEq] at H
     obtain ⟨rfl, rfl, rfl, rfl, rfl, rfl, rfl⟩ := H
     have hcz9_0 : w7.cell? ⟨gb529, 0, none⟩ = some (.int .i64 0) := (blk_cell BK529.out 0).trans rfl
     have hcz9_1 : w7.cell? ⟨gb529, 1, none⟩ = some (.string (⟨#[]⟩ : ByteArray)) := (blk_cell BK529.out 1).trans rfl
     have hcz9_2 : w7.cell? ⟨gb529, 2, none⟩ = some (.bool false) := (blk_cell BK529.out 2).trans rfl
     have hcz9_3 : w7.cell? ⟨gb529, 3, none⟩ = some (.int .i64 0) := (blk_cell BK529.out 3).trans rfl
     have hcz9_4 : w7.cell? ⟨gb529, 4, none⟩ = some (.int .i64 0) := (blk_cell BK529.out 4).trans rfl
     have hfz9_0 := blk_frozen BK529.out 0
     have hfz9_1 := blk_frozen BK529.out 1
     have hfz9_2 := blk_frozen BK529.out 2
     have hfz9_3 := blk_frozen BK529.out 3
     have hfz9_4 := blk_frozen BK529.out 4
     go_wp2
     refine bodyPost_ret (results_ctt rfl _ _ gb529 37 #[.int .i64 1, .string (⟨#[40]⟩ : ByteArray), .bool false, .int .i64 0, .int .i64 0] (0, 0) _ rfl (by refine blk_put (cs := #[.int .i64 1, .string (⟨#[40]⟩ : ByteArray), .bool false, .int .i64 0, .int .i64 0]) ?_ 4 _ rfl; refine blk_put (cs := #[.int .i64 1, .string (⟨#[40]⟩ : ByteArray), .bool false, .int .i64 0, .int .i64 0]) ?_ 3 _ rfl; refine blk_put (cs := #[.int .i64 1, .string (⟨#[40]⟩ : ByteArray), .bool false, .int .i64 0, .int .i64 0]) ?_ 2 _ rfl; refine blk_put (cs := #[.int .i64 1, .string (⟨#[]⟩ : ByteArray), .bool false, .int .i64 0, .int .i64 0]) ?_ 1 _ rfl; refine blk_put (cs := #[.int .i64 0, .string (⟨#[]⟩ : ByteArray), .bool false, .int .i64 0, .int .i64 0]) ?_ 0 _ rfl; exact BK529.out) Tryz.underlying37 rfl (by kernel_rfl)) rfl ?_
     exact ⟨by rfl, by repeat ((with_reducible first | exact HB.out | refine below_set ?_ GE529.out))⟩
    ·rw [if_neg c8] at H
     have c8b0 : ((bt a0 a1) == 40) = false := beq_eq_false_iff_ne.mpr c8
     have c8b1 : ((bt a0 a1) != 40) = true := bne_iff_ne.mpr c8
     (skip)
     by_cases c10 : (bt a0 a1) = 41
     ·rw [if_pos c10] at H
      have c10b0 : ((bt a0 a1) == 41) = true := beq_iff_eq.mpr c10
      have c10b1 : ((bt a0 a1) != 41) = false := bne_eq_false_iff_eq.mpr c10
      clear c10
      simp only [Option.some.injEq, Prod.mk.injEq] at H
      obtain ⟨rfl, rfl, rfl, rfl, rfl, rfl, rfl⟩ := H
      have hcz11_0 : w7.cell? ⟨gb529, 0, none⟩ = some (.int .i64 0) := (blk_cell BK529.out 0).trans rfl
      have hcz11_1 : w7.cell? ⟨gb529, 1, none⟩ = some (.string (⟨#[]⟩ : ByteArray)) := (blk_cell BK529.out 1).trans rfl
      have hcz11_2 : w7.cell? ⟨gb529, 2, none⟩ = some (.bool false) := (blk_cell BK529.out 2).trans rfl
      have hcz11_3 : w7.cell? ⟨gb529, 3, none⟩ = some (.int .i64 0) := (blk_cell BK529.out 3).trans rfl
      have hcz11_4 : w7.cell? ⟨gb529, 4, none⟩ = some (.int .i64 0) := (blk_cell BK529.out 4).trans rfl
      have hfz11_0 := blk_frozen BK529.out 0
      have hfz11_1 := blk_frozen BK529.out 1
      have hfz11_2 := blk_frozen BK529.out 2
      have hfz11_3 := blk_frozen BK529.out 3
      have hfz11_4 := blk_frozen BK529.out 4
      go_wp2
      refine bodyPost_ret (results_ctt rfl _ _ gb529 37 #[.int .i64 2, .string (⟨#[41]⟩ : ByteArray), .bool false, .int .i64 0, .int .i64 0] (0, 0) _ rfl (by refine blk_put (cs := #[.int .i64 2, .string (⟨#[41]⟩ : ByteArray), .bool false, .int .i64 0, .int .i64 0]) ?_ 4 _ rfl; refine blk_put (cs := #[.int .i64 2, .string (⟨#[41]⟩ : ByteArray), .bool false, .int .i64 0, .int .i64 0]) ?_ 3 _ rfl; refine blk_put (cs := #[.int .i64 2, .string (⟨#[41]⟩ : ByteArray), .bool false, .int .i64 0, .int .i64 0]) ?_ 2 _ rfl; refine blk_put (cs := #[.int .i64 2, .string (⟨#[]⟩ : ByteArray), .bool false, .int .i64 0, .int .i64 0]) ?_ 1 _ rfl; refine blk_put (cs := #[.int .i64 0, .string (⟨#[]⟩ : ByteArray), .bool false, .int .i64 0, .int .i64 0]) ?_ 0 _ rfl; exact BK529.out) Tryz.underlying37 rfl (by kernel_rfl)) rfl ?_
      exact ⟨by rfl, by repeat ((with_reducible first | exact HB.out | refine below_set ?_ GE529.out))⟩
     ·rw [if_neg c10] at H
      have c10b0 : ((bt a0 a1) == 41) = false := beq_eq_false_iff_ne.mpr c10
      have c10b1 : ((bt a0 a1) != 41) = true := bne_iff_ne.mpr c10
      have HC12 := Aside0.mk H
      clear H
      go_upto_region 6 with (fail)
      go_cut [27] (fun v27 wc => ∃ (kq : Nat) (x27_11 : Bool), v27 = .bool x27_11 ∧ Aside0 (tribunalref06_one.j0 kq a0 a1 (bt a0 a1) x27_11 = some (r1, r2, r3, r4, r5, r6, r7)) ∧ Aside0 (kq ≤ k) ∧ Aside0 (wc.heap[gb529]? = some (.cells #[.int .i64 0, .string (⟨#[]⟩ : ByteArray), .bool false, .int .i64 0, .int .i64 0] 37 (0, 0))) ∧ Aside0 (Below w.heap.size w wc))
      case first =>
       have H := HC12.out
       clear HC12
       by_cases c13 : (bt a0 a1) = 34
       ·rw [if_pos c13] at H
        have c13b0 : ((bt a0 a1) == 34) = true := beq_iff_eq.mpr c13
        have c13b1 : ((bt a0 a1) != 34) = false := bne_eq_false_iff_eq.mpr c13
        clear c13
        (skip)
        have H' := Aside0.mk H
        clear H
        go_wp2
        go_meet
        case rel => exact ⟨_, (true), (by rfl), H', ⟨by omega⟩, ⟨by exact BK529.out⟩, ⟨by exact HB.out⟩⟩
       ·rw [if_neg c13] at H
        have c13b0 : ((bt a0 a1) == 34) = false := beq_eq_false_iff_ne.mpr c13
        have c13b1 : ((bt a0 a1) != 34) = true := bne_iff_ne.mpr c13
        (skip)
        have H' := Aside0.mk H
        clear H
        go_wp2
        go_meet
        case rel => exact ⟨_, (((bt a0 a1) == 124)), (by rfl), H', ⟨by omega⟩, ⟨by exact BK529.out⟩, ⟨by exact HB.out⟩⟩
      case rest =>
       clear HC12
       obtain ⟨kq, x27_11, rfl, HA, HJ11, BK529, HB⟩ := hcut
       cases kq with
       | zero => exact absurd HA.out (by simp [tribunalref06_one.j0])
       | succ kj11 =>
        have H := HA.out
        clear HA
        simp only [tribunalref06_one.j0] at H
        by_cases c14 : x27_11 = true
        ·subst c14
         have H1 : ((tribunalref06_between.f kj11 a0 a1).bind fun bt530 => (if bt530.1 = 0 then (some (bt530.1, bt530.2.1, bt530.2.2.1, bt530.2.2.2.1, bt530.2.2.2.2.1, 0, 61)) else (some (bt530.1, bt530.2.1, bt530.2.2.1, bt530.2.2.2.1, bt530.2.2.2.2.1, bt530.2.2.2.2.2, 0)))) = some (r1, r2, r3, r4, r5, r6, r7) := by rw [if_pos rfl] at H; exact H
         clear H
         have H := H1
         clear H1
         replace H := Option.bind_eq_some_iff.mp H
         obtain ⟨⟨t530, t531, t532, t533, t534, t535⟩, A150, H⟩ := H
         replace H : (if t530 = 0 then (some (t530, t531, t532, t533, t534, 0, 61)) else (some (t530, t531, t532, t533, t534, t535, 0))) = some (r1, r2, r3, r4, r5, r6, r7) := H
         have A15 := Aside0.mk A150
         clear A150
         by_cases c16 : t530 = 0
         ·rw [if_pos c16] at H
          have c16b0 : (t530 == 0) = true := beq_iff_eq.mpr c16
          have c16b1 : (t530 != 0) = false := bne_eq_false_iff_eq.mpr c16
          clear c16
          simp only [Option.some.injEq, Prod.mk.injEq] at H
          obtain ⟨rfl, rfl, rfl, rfl, rfl, rfl, rfl⟩ := H
          go_wp2_with (first | ((with_reducible refine gate_callee (f := 74) rfl ?_); refine goesL_ (some 37) rfl rfl Tryz.func74 (by kernel_rfl) rfl #[.string a0, .int .i64 a1] rfl (by (try simp only [List.map_toArray, List.map_cons, List.map_nil]); rfl) ?_; (with_reducible refine (tribunalref06_between.calls kj11 a0 a1 t530 t531 t532 t533 t534 t535 _ A15.out).mono ?_); rintro e w17 ⟨rfl, hb⟩; refine ⟨_, rfl, ?_⟩; have n0_ := Aside0.mk (blk_below (g := gb529) (o := .cells #[.int .i64 0, .string (⟨#[]⟩ : ByteArray), .bool false, .int .i64 0, .int .i64 0] 37 (0, 0)) (by exact BK529.out) hb); have n1_ := Aside0.mk (below_step (by exact HB.out) hb); clear BK529; clear HB; have BK529 := n0_; have HB := n1_; clear n0_ n1_; (try clear hb); ) | ((with_reducible refine gate_dst (N := 8) rfl ?_); refine box_event ?hg (N := 8) ?hd (cs := #[.int .i64 0, .string (⟨#[]⟩ : ByteArray), .bool false, .int .i64 0, .int .i64 0]) (t := 37) ?hr ?_; (case hd => rfl); (case hg => rfl); (case hr => ((go_simp; done))); intro gb536 hg w18 hbox hb; have n0_ := Aside0.mk (blk_below (g := gb529) (o := .cells #[.int .i64 0, .string (⟨#[]⟩ : ByteArray), .bool false, .int .i64 0, .int .i64 0] 37 (0, 0)) (by exact BK529.out) hb); have n1_ := Aside0.mk (below_step (by exact HB.out) hb); have n2_ := Aside0.mk (hbox); have n3_ := Aside0.mk ((by rw [hg]; exact (below_size (by exact HB.out)) : w.heap.size ≤ gb536)); have n4_ := Aside0.mk ((by rw [hg]; exact (below_size (by exact HB.out)) : w.heap.size ≤ gb536)); have n5_ := Aside0.mk ((by rw [hg]; exact Nat.ne_of_lt (blk_lt (g := gb529) (o := .cells #[.int .i64 0, .string (⟨#[]⟩ : ByteArray), .bool false, .int .i64 0, .int .i64 0] 37 (0, 0)) (by exact BK529.out)) : gb529 ≠ gb536)); have n6_ := Aside0.mk ((by rw [hg]; exact Nat.ne_of_gt (blk_lt (g := gb529) (o := .cells #[.int .i64 0, .string (⟨#[]⟩ : ByteArray), .bool false, .int .i64 0, .int .i64 0] 37 (0, 0)) (by exact BK529.out)) : gb536 ≠ gb529)); clear BK529; clear HB; have BK529 := n0_; have HB := n1_; have BK536 := n2_; have GW536 := n3_; have GE536 := n4_; have NB529_536 := n5_; have NB536_529 := n6_; clear n0_ n1_ n2_ n3_ n4_ n5_ n6_; clear hb hbox hg; have hnb19 := NB536_529.out; have hnc19 := NB529_536.out; have hcz20_0 : w18.cell? ⟨gb536, 0, none⟩ = some (.int .i64 0) := (blk_cell BK536.out 0).trans rfl; have hcz20_1 : w18.cell? ⟨gb536, 1, none⟩ = some (.string (⟨#[]⟩ : ByteArray)) := (blk_cell BK536.out 1).trans rfl; have hcz20_2 : w18.cell? ⟨gb536, 2, none⟩ = some (.bool false) := (blk_cell BK536.out 2).trans rfl; have hcz20_3 : w18.cell? ⟨gb536, 3, none⟩ = some (.int .i64 0) := (blk_cell BK536.out 3).trans rfl; have hcz20_4 : w18.cell? ⟨gb536, 4, none⟩ = some (.int .i64 0) := (blk_cell BK536.out 4).trans rfl; have hfz20_0 := blk_frozen BK536.out 0; have hfz20_1 := blk_frozen BK536.out 1; have hfz20_2 := blk_frozen BK536.out 2; have hfz20_3 := blk_frozen BK536.out 3; have hfz20_4 := blk_frozen BK536.out 4; have hcz21_0 : w18.cell? ⟨gb529, 0, none⟩ = some (.int .i64 0) := (blk_cell BK529.out 0).trans rfl; have hcz21_1 : w18.cell? ⟨gb529, 1, none⟩ = some (.string (⟨#[]⟩ : ByteArray)) := (blk_cell BK529.out 1).trans rfl; have hcz21_2 : w18.cell? ⟨gb529, 2, none⟩ = some (.bool false) := (blk_cell BK529.out 2).trans rfl; have hcz21_3 : w18.cell? ⟨gb529, 3, none⟩ = some (.int .i64 0) := (blk_cell BK529.out 3).trans rfl; have hcz21_4 : w18.cell? ⟨gb529, 4, none⟩ = some (.int .i64 0) := (blk_cell BK529.out 4).trans rfl; have hfz21_0 := blk_frozen BK529.out 0; have hfz21_1 := blk_frozen BK529.out 1; have hfz21_2 := blk_frozen BK529.out 2; have hfz21_3 := blk_frozen BK529.out 3; have hfz21_4 := blk_frozen BK529.out 4))
          refine bodyPost_ret (results_ctt rfl _ _ gb529 37 #[.int .i64 t530, .string t531, .bool t532, .int .i64 t533, .int .i64 t534] (0, 0) _ rfl (by refine blk_put (cs := #[.int .i64 t530, .string t531, .bool t532, .int .i64 t533, .int .i64 0]) ?_ 4 _ rfl; refine blk_put (cs := #[.int .i64 t530, .string t531, .bool t532, .int .i64 0, .int .i64 0]) ?_ 3 _ rfl; refine blk_put (cs := #[.int .i64 t530, .string t531, .bool false, .int .i64 0, .int .i64 0]) ?_ 2 _ rfl; refine blk_put (cs := #[.int .i64 t530, .string (⟨#[]⟩ : ByteArray), .bool false, .int .i64 0, .int .i64 0]) ?_ 1 _ rfl; refine blk_put (cs := #[.int .i64 0, .string (⟨#[]⟩ : ByteArray), .bool false, .int .i64 0, .int .i64 0]) ?_ 0 _ rfl; refine blk_far ?_ NB529_536.out _; refine blk_far ?_ NB529_536.out _; refine blk_far ?_ NB529_536.out _; refine blk_far ?_ NB529_536.out _; refine blk_far ?_ NB529_536.out _; exact BK529.out) Tryz.underlying37 rfl (by kernel_rfl)) rfl ?_
          exact ⟨by rfl, by repeat ((with_reducible first | exact HB.out | refine below_set ?_ GE529.out | refine below_set ?_ GE536.out))⟩
         ·rw [if_neg c16] at H
          have c16b0 : (t530 == 0) = false := beq_eq_false_iff_ne.mpr c16
          have c16b1 : (t530 != 0) = true := bne_iff_ne.mpr c16
          simp only [Option.some.injEq, Prod.mk.injEq] at H
          obtain ⟨rfl, rfl, rfl, rfl, rfl, rfl, rfl⟩ := H
          go_wp2_with (first | ((with_reducible refine gate_callee (f := 74) rfl ?_); refine goesL_ (some 37) rfl rfl Tryz.func74 (by kernel_rfl) rfl #[.string a0, .int .i64 a1] rfl (by (try simp only [List.map_toArray, List.map_cons, List.map_nil]); rfl) ?_; (with_reducible refine (tribunalref06_between.calls kj11 a0 a1 t530 t531 t532 t533 t534 t535 _ A15.out).mono ?_); rintro e w22 ⟨rfl, hb⟩; refine ⟨_, rfl, ?_⟩; have n0_ := Aside0.mk (blk_below (g := gb529) (o := .cells #[.int .i64 0, .string (⟨#[]⟩ : ByteArray), .bool false, .int .i64 0, .int .i64 0] 37 (0, 0)) (by exact BK529.out) hb); have n1_ := Aside0.mk (below_step (by exact HB.out) hb); clear BK529; clear HB; have BK529 := n0_; have HB := n1_; clear n0_ n1_; (try clear hb); ) | ((with_reducible refine gate_dst (N := 8) rfl ?_); refine box_event ?hg (N := 8) ?hd (cs := #[.int .i64 0, .string (⟨#[]⟩ : ByteArray), .bool false, .int .i64 0, .int .i64 0]) (t := 37) ?hr ?_; (case hd => rfl); (case hg => rfl); (case hr => ((go_simp; done))); intro gb536 hg w23 hbox hb; have n0_ := Aside0.mk (blk_below (g := gb529) (o := .cells #[.int .i64 0, .string (⟨#[]⟩ : ByteArray), .bool false, .int .i64 0, .int .i64 0] 37 (0, 0)) (by exact BK529.out) hb); have n1_ := Aside0.mk (below_step (by exact HB.out) hb); have n2_ := Aside0.mk (hbox); have n3_ := Aside0.mk ((by rw [hg]; exact (below_size (by exact HB.out)) : w.heap.size ≤ gb536)); have n4_ := Aside0.mk ((by rw [hg]; exact (below_size (by exact HB.out)) : w.heap.size ≤ gb536)); have n5_ := Aside0.mk ((by rw [hg]; exact Nat.ne_of_lt (blk_lt (g := gb529) (o := .cells #[.int .i64 0, .string (⟨#[]⟩ : ByteArray), .bool false, .int .i64 0, .int .i64 0] 37 (0, 0)) (by exact BK529.out)) : gb529 ≠ gb536)); have n6_ := Aside0.mk ((by rw [hg]; exact Nat.ne_of_gt (blk_lt (g := gb529) (o := .cells #[.int .i64 0, .string (⟨#[]⟩ : ByteArray), .bool false, .int .i64 0, .int .i64 0] 37 (0, 0)) (by exact BK529.out)) : gb536 ≠ gb529)); clear BK529; clear HB; have BK529 := n0_; have HB := n1_; have BK536 := n2_; have GW536 := n3_; have GE536 := n4_; have NB529_536 := n5_; have NB536_529 := n6_; clear n0_ n1_ n2_ n3_ n4_ n5_ n6_; clear hb hbox hg; have hnb24 := NB536_529.out; have hnc24 := NB529_536.out; have hcz25_0 : w23.cell? ⟨gb536, 0, none⟩ = some (.int .i64 0) := (blk_cell BK536.out 0).trans rfl; have hcz25_1 : w23.cell? ⟨gb536, 1, none⟩ = some (.string (⟨#[]⟩ : ByteArray)) := (blk_cell BK536.out 1).trans rfl; have hcz25_2 : w23.cell? ⟨gb536, 2, none⟩ = some (.bool false) := (blk_cell BK536.out 2).trans rfl; have hcz25_3 : w23.cell? ⟨gb536, 3, none⟩ = some (.int .i64 0) := (blk_cell BK536.out 3).trans rfl; have hcz25_4 : w23.cell? ⟨gb536, 4, none⟩ = some (.int .i64 0) := (blk_cell BK536.out 4).trans rfl; have hfz25_0 := blk_frozen BK536.out 0; have hfz25_1 := blk_frozen BK536.out 1; have hfz25_2 := blk_frozen BK536.out 2; have hfz25_3 := blk_frozen BK536.out 3; have hfz25_4 := blk_frozen BK536.out 4; have hcz26_0 : w23.cell? ⟨gb529, 0, none⟩ = some (.int .i64 0) := (blk_cell BK529.out 0).trans rfl; have hcz26_1 : w23.cell? ⟨gb529, 1, none⟩ = some (.string (⟨#[]⟩ : ByteArray)) := (blk_cell BK529.out 1).trans rfl; have hcz26_2 : w23.cell? ⟨gb529, 2, none⟩ = some (.bool false) := (blk_cell BK529.out 2).trans rfl; have hcz26_3 : w23.cell? ⟨gb529, 3, none⟩ = some (.int .i64 0) := (blk_cell BK529.out 3).trans rfl; have hcz26_4 : w23.cell? ⟨gb529, 4, none⟩ = some (.int .i64 0) := (blk_cell BK529.out 4).trans rfl; have hfz26_0 := blk_frozen BK529.out 0; have hfz26_1 := blk_frozen BK529.out 1; have hfz26_2 := blk_frozen BK529.out 2; have hfz26_3 := blk_frozen BK529.out 3; have hfz26_4 := blk_frozen BK529.out 4))
          refine bodyPost_ret (results_ctt rfl _ _ gb529 37 #[.int .i64 t530, .string t531, .bool t532, .int .i64 t533, .int .i64 t534] (0, 0) _ rfl (by refine blk_put (cs := #[.int .i64 t530, .string t531, .bool t532, .int .i64 t533, .int .i64 0]) ?_ 4 _ rfl; refine blk_put (cs := #[.int .i64 t530, .string t531, .bool t532, .int .i64 0, .int .i64 0]) ?_ 3 _ rfl; refine blk_put (cs := #[.int .i64 t530, .string t531, .bool false, .int .i64 0, .int .i64 0]) ?_ 2 _ rfl; refine blk_put (cs := #[.int .i64 t530, .string (⟨#[]⟩ : ByteArray), .bool false, .int .i64 0, .int .i64 0]) ?_ 1 _ rfl; refine blk_put (cs := #[.int .i64 0, .string (⟨#[]⟩ : ByteArray), .bool false, .int .i64 0, .int .i64 0]) ?_ 0 _ rfl; refine blk_far ?_ NB529_536.out _; refine blk_far ?_ NB529_536.out _; refine blk_far ?_ NB529_536.out _; refine blk_far ?_ NB529_536.out _; refine blk_far ?_ NB529_536.out _; exact BK529.out) Tryz.underlying37 rfl (by kernel_rfl)) rfl ?_
          exact ⟨by rfl, by repeat ((with_reducible first | exact HB.out | refine below_set ?_ GE529.out | refine below_set ?_ GE536.out))⟩
        ·replace c14 := Bool.eq_false_iff.mpr c14
         subst c14
         have H1 : (if (bt a0 a1) = 35 then (tribunalref06_one.j1 kj11 a0 a1) else (if (bt a0 a1) = 58 then (tribunalref06_one.j1 kj11 a0 a1) else ((tribunalref04_SimpleByte.f kj11 (bt a0 a1)).bind fun t537 => (if t537 = true then (tribunalref06_one.j1 kj11 a0 a1) else (some (0, (⟨#[]⟩ : ByteArray), false, 0, 0, 0, 60)))))) = some (r1, r2, r3, r4, r5, r6, r7) := by rw [if_neg (show ¬ (false = true) by decide)] at H; exact H
         clear H
         have H := H1
         clear H1
         by_cases c27 : (bt a0 a1) = 35
         ·rw [if_pos c27] at H
          have c27b0 : ((bt a0 a1) == 35) = true := beq_iff_eq.mpr c27
          have c27b1 : ((bt a0 a1) != 35) = false := bne_eq_false_iff_eq.mpr c27
          clear c27
          have H' := Aside0.mk H
          clear H
          go_wp2
          go_meet
          case rel => exact ⟨_, (0), ((⟨#[]⟩ : ByteArray)), (false), (0), (0), H', ⟨by have := HJ11.out; omega⟩, ⟨by exact BK529.out⟩, ⟨by exact HB.out⟩⟩
         ·rw [if_neg c27] at H
          have c27b0 : ((bt a0 a1) == 35) = false := beq_eq_false_iff_ne.mpr c27
          have c27b1 : ((bt a0 a1) != 35) = true := bne_iff_ne.mpr c27
          by_cases c28 : (bt a0 a1) = 58
          ·rw [if_pos c28] at H
           have c28b0 : ((bt a0 a1) == 58) = true := beq_iff_eq.mpr c28
           have c28b1 : ((bt a0 a1) != 58) = false := bne_eq_false_iff_eq.mpr c28
           clear c28
           have H' := Aside0.mk H
           clear H
           go_wp2
           go_meet
           case rel => exact ⟨_, (0), ((⟨#[]⟩ : ByteArray)), (false), (0), (0), H', ⟨by have := HJ11.out; omega⟩, ⟨by exact BK529.out⟩, ⟨by exact HB.out⟩⟩
          ·rw [if_neg c28] at H
           have c28b0 : ((bt a0 a1) == 58) = false := beq_eq_false_iff_ne.mpr c28
           have c28b1 : ((bt a0 a1) != 58) = true := bne_iff_ne.mpr c28
           replace H := Option.bind_eq_some_iff.mp H
           obtain ⟨t537, A290, H⟩ := H
           replace H : (if t537 = true then (tribunalref06_one.j1 kj11 a0 a1) else (some (0, (⟨#[]⟩ : ByteArray), false, 0, 0, 0, 60))) = some (r1, r2, r3, r4, r5, r6, r7) := H
           have A29 := Aside0.mk A290
           clear A290
           by_cases c30 : t537 = true
           ·subst c30
            have H1 : (tribunalref06_one.j1 kj11 a0 a1) = some (r1, r2, r3, r4, r5, r6, r7) := by rw [if_pos rfl] at H; exact H
            clear H
            have H := H1
            clear H1
            have H' := Aside0.mk H
            clear H
            go_wp2_with (((go_at_call 58; (with_reducible refine (tribunalref04_SimpleByte.calls kj11 (bt a0 a1) true _ A29.out).mono ?_); rintro e w' ⟨rfl, ⟨nd, rfl⟩⟩)))
            go_meet
            case rel => exact ⟨_, (0), ((⟨#[]⟩ : ByteArray)), (false), (0), (0), H', ⟨by have := HJ11.out; omega⟩, ⟨by (with_reducible repeat (refine blk_drewN ?_ _)); exact BK529.out⟩, ⟨by repeat ((with_reducible first | exact HB.out | apply pw_below_drewN))⟩⟩
           ·replace c30 := Bool.eq_false_iff.mpr c30
            subst c30
            have H1 : (some (0, (⟨#[]⟩ : ByteArray), false, 0, 0, 0, 60)) = some (r1, r2, r3, r4, r5, r6, r7) := by rw [if_neg (show ¬ (false = true) by decide)] at H; exact H
            clear H
            have H := H1
            clear H1
            simp only [Option.some.injEq, Prod.mk.injEq] at H
            obtain ⟨rfl, rfl, rfl, rfl, rfl, rfl, rfl⟩ := H
            go_wp2_with (((go_at_call 58; (with_reducible refine (tribunalref04_SimpleByte.calls kj11 (bt a0 a1) false _ A29.out).mono ?_); rintro e w' ⟨rfl, ⟨nd, rfl⟩⟩; (try (rw [drewN_self wc]; generalize hq_ : World.drewN wc _ = wc; have n0_ : Aside0 (wc.heap[gb529]? = some (.cells #[.int .i64 0, .string (⟨#[]⟩ : ByteArray), .bool false, .int .i64 0, .int .i64 0] 37 (0, 0))) := ⟨by rw [← hq_]; exact (by (with_reducible repeat (refine blk_drewN ?_ _)); exact BK529.out)⟩; have n1_ : Aside0 (Below w.heap.size w wc) := ⟨by rw [← hq_]; exact (by repeat ((with_reducible first | exact HB.out | apply pw_below_drewN)))⟩; clear BK529 HB hq_; have BK529 := n0_; have HB := n1_; clear n0_ n1_)); have hcz31_0 : wc.cell? ⟨gb529, 0, none⟩ = some (.int .i64 0) := (blk_cell BK529.out 0).trans rfl; have hcz31_1 : wc.cell? ⟨gb529, 1, none⟩ = some (.string (⟨#[]⟩ : ByteArray)) := (blk_cell BK529.out 1).trans rfl; have hcz31_2 : wc.cell? ⟨gb529, 2, none⟩ = some (.bool false) := (blk_cell BK529.out 2).trans rfl; have hcz31_3 : wc.cell? ⟨gb529, 3, none⟩ = some (.int .i64 0) := (blk_cell BK529.out 3).trans rfl; have hcz31_4 : wc.cell? ⟨gb529, 4, none⟩ = some (.int .i64 0) := (blk_cell BK529.out 4).trans rfl; have hfz31_0 := blk_frozen BK529.out 0; have hfz31_1 := blk_frozen BK529.out 1; have hfz31_2 := blk_frozen BK529.out 2; have hfz31_3 := blk_frozen BK529.out 3; have hfz31_4 := blk_frozen BK529.out 4)))
            refine bodyPost_ret (results_ctt rfl _ _ gb529 37 #[.int .i64 0, .string (⟨#[]⟩ : ByteArray), .bool false, .int .i64 0, .int .i64 0] (0, 0) _ rfl (by refine blk_put (cs := #[.int .i64 0, .string (⟨#[]⟩ : ByteArray), .bool false, .int .i64 0, .int .i64 0]) ?_ 4 _ rfl; refine blk_put (cs := #[.int .i64 0, .string (⟨#[]⟩ : ByteArray), .bool false, .int .i64 0, .int .i64 0]) ?_ 3 _ rfl; refine blk_put (cs := #[.int .i64 0, .string (⟨#[]⟩ : ByteArray), .bool false, .int .i64 0, .int .i64 0]) ?_ 2 _ rfl; refine blk_put (cs := #[.int .i64 0, .string (⟨#[]⟩ : ByteArray), .bool false, .int .i64 0, .int .i64 0]) ?_ 1 _ rfl; refine blk_put (cs := #[.int .i64 0, .string (⟨#[]⟩ : ByteArray), .bool false, .int .i64 0, .int .i64 0]) ?_ 0 _ rfl; exact BK529.out) Tryz.underlying37 rfl (by kernel_rfl)) rfl ?_
            exact ⟨by rfl, by repeat ((with_reducible first | exact HB.out | refine below_set ?_ GE529.out))⟩
   case rest =>
    clear HC6
    obtain ⟨kq, x530000_5, x530001_5, x530002_5, x530003_5, x530004_5, HA, HJ5, BK529, HB⟩ := hcut
    cases kq with
    | zero => exact absurd HA.out (by simp [tribunalref06_one.j1])
    | succ kj5 =>
     have H := HA.out
     clear HA
     simp only [tribunalref06_one.j1] at H
     have H' := Aside0.mk H
     clear H
     go_wp2
     go_loopg [10] kj5 (fun kq v10 w' => ∃ (x10_2 : Int), v10 = .int .i64 x10_2 ∧ Aside0 (tribunalref06_one.l0 kq a0 a1 x10_2 = some (r1, r2, r3, r4, r5, r6, r7)) ∧ Aside0 (kq ≤ kj5) ∧ Aside0 (w'.heap[gb529]? = some (.cells #[.int .i64 x530000_5, .string x530001_5, .bool x530002_5, .int .i64 x530003_5, .int .i64 x530004_5] 37 (0, 0))) ∧ Aside0 (Below w.heap.size w w'))
     case atStart => exact ⟨(a1), (by rfl), H', ⟨Nat.le_refl _⟩, ⟨by exact BK529.out⟩, ⟨by exact HB.out⟩⟩
     case round =>
      clear H'
      obtain ⟨x10_2, rfl, HA, HK2, BK529, HB⟩ := hrel
      cases gk with
      | zero => exact absurd HA.out (by simp [tribunalref06_one.l0])
      | succ k2 =>
       have H := HA.out
       clear HA
       simp only [tribunalref06_one.l0] at H
       by_cases c32 : x10_2 < (a0.size : Int)
       ·rw [if_pos c32] at H
        have c32b0 : decide (x10_2 < (a0.size : Int)) = true := decide_eq_true c32
        clear c32
        by_cases c33 : 0 ≤ x10_2
        ·rw [if_pos c33] at H
         have c33b0 : decide (0 ≤ x10_2) = true := decide_eq_true c33
         clear c33
         replace H := Option.bind_eq_some_iff.mp H
         obtain ⟨t538, A350, H⟩ := H
         replace H : (if t538 = true then (if 0 ≤ a1 then (if a1 ≤ x10_2 then (if x10_2 ≤ (a0.size : Int) then ((tribunalref06_bare.f k2 (a0.extract (a1 : Int).toNat (x10_2 : Int).toNat)).bind fun bt539 => (if bt539.1 = 0 then (some (bt539.1, bt539.2.1, bt539.2.2.1, bt539.2.2.2.1, bt539.2.2.2.2, 0, 62)) else (some (bt539.1, bt539.2.1, bt539.2.2.1, bt539.2.2.2.1, bt539.2.2.2.2, x10_2, 0)))) else (none)) else (none)) else (none)) else (tribunalref06_one.l0 k2 a0 a1 (wrap64 (x10_2 + 1)))) = some (r1, r2, r3, r4, r5, r6, r7) := H
         have A35 := Aside0.mk A350
         clear A350
         by_cases c36 : t538 = true
         ·subst c36
          have H1 : (if 0 ≤ a1 then (if a1 ≤ x10_2 then (if x10_2 ≤ (a0.size : Int) then ((tribunalref06_bare.f k2 (a0.extract (a1 : Int).toNat (x10_2 : Int).toNat)).bind fun bt539 => (if bt539.1 = 0 then (some (bt539.1, bt539.2.1, bt539.2.2.1, bt539.2.2.2.1, bt539.2.2.2.2, 0, 62)) else (some (bt539.1, bt539.2.1, bt539.2.2.1, bt539.2.2.2.1, bt539.2.2.2.2, x10_2, 0)))) else (none)) else (none)) else (none)) = some (r1, r2, r3, r4, r5, r6, r7) := by rw [if_pos rfl] at H; exact H
          clear H
          have H := H1
          clear H1
          by_cases c37 : 0 ≤ a1
          ·rw [if_pos c37] at H
           have c37b0 := eq_true c37
           have c37b1 : decide (0 ≤ a1) = true := decide_eq_true c37
           clear c37
           by_cases c38 : a1 ≤ x10_2
           ·rw [if_pos c38] at H
            have c38b0 := eq_true c38
            have c38b1 : decide (a1 ≤ x10_2) = true := decide_eq_true c38
            clear c38
            by_cases c39 : x10_2 ≤ (a0.size : Int)
            ·rw [if_pos c39] at H
             have c39b0 := eq_true c39
             have c39b1 : decide (x10_2 ≤ (a0.size : Int)) = true := decide_eq_true c39
             clear c39
             replace H := Option.bind_eq_some_iff.mp H
             obtain ⟨⟨t539, t540, t541, t542, t543⟩, A400, H⟩ := H
             replace H : (if t539 = 0 then (some (t539, t540, t541, t542, t543, 0, 62)) else (some (t539, t540, t541, t542, t543, x10_2, 0))) = some (r1, r2, r3, r4, r5, r6, r7) := H
             have A40 := Aside0.mk A400
             clear A400
             by_cases c41 : t539 = 0
             ·rw [if_pos c41] at H
              have c41b0 : (t539 == 0) = true := beq_iff_eq.mpr c41
              have c41b1 : (t539 != 0) = false := bne_eq_false_iff_eq.mpr c41
              clear c41
              simp only [Option.some.injEq, Prod.mk.injEq] at H
              obtain ⟨rfl, rfl, rfl, rfl, rfl, rfl, rfl⟩ := H
              have p34 : 0 ≤ (x10_2 : Int) := of_decide_eq_true (by assumption)
              have q34 : x10_2 < (a0.size : Int) := of_decide_eq_true (by assumption)
              have hx34 := bt_at a0 x10_2
              replace p34 := eq_true p34
              replace q34 := eq_true q34
              go_wp2_with (first | (go_at_call 75; (with_reducible refine (tribunalref06_ends.calls (bt a0 x10_2) true _ A35.out).mono ?_); rintro e w' ⟨rfl, ⟨nd, rfl⟩⟩; (try (rw [drewN_self wr]; generalize hq_ : World.drewN wr _ = wr; have n0_ : Aside0 (wr.heap[gb529]? = some (.cells #[.int .i64 x530000_5, .string x530001_5, .bool x530002_5, .int .i64 x530003_5, .int .i64 x530004_5] 37 (0, 0))) := ⟨by rw [← hq_]; exact (by (with_reducible repeat (refine blk_drewN ?_ _)); exact BK529.out)⟩; have n1_ : Aside0 (Below w.heap.size w wr) := ⟨by rw [← hq_]; exact (by repeat ((with_reducible first | exact HB.out | apply pw_below_drewN)))⟩; clear BK529 HB hq_; have BK529 := n0_; have HB := n1_; clear n0_ n1_))) | ((with_reducible refine gate_callee (f := 76) rfl ?_); refine goesL_ (some 77) rfl rfl Tryz.func76 (by kernel_rfl) rfl #[.string (a0.extract (a1 : Int).toNat (x10_2 : Int).toNat)] rfl (by (try simp only [List.map_toArray, List.map_cons, List.map_nil]); rfl) ?_; (with_reducible refine (tribunalref06_bare.calls k2 (a0.extract (a1 : Int).toNat (x10_2 : Int).toNat) t539 t540 t541 t542 t543 _ A40.out).mono ?_); rintro e w42 ⟨rfl, hb⟩; refine ⟨_, rfl, ?_⟩; have n0_ := Aside0.mk (blk_below (g := gb529) (o := .cells #[.int .i64 x530000_5, .string x530001_5, .bool x530002_5, .int .i64 x530003_5, .int .i64 x530004_5] 37 (0, 0)) (by exact BK529.out) hb); have n1_ := Aside0.mk (below_step (by exact HB.out) hb); clear BK529; clear HB; have BK529 := n0_; have HB := n1_; clear n0_ n1_; (try clear hb); ) | ((with_reducible refine gate_dst (N := 11) rfl ?_); refine box_event ?hg (N := 11) ?hd (cs := #[.int .i64 0, .string (⟨#[]⟩ : ByteArray), .bool false, .int .i64 0, .int .i64 0]) (t := 37) ?hr ?_; (case hd => rfl); (case hg => rfl); (case hr => ((go_simp; done))); intro gb544 hg w43 hbox hb; have n0_ := Aside0.mk (blk_below (g := gb529) (o := .cells #[.int .i64 x530000_5, .string x530001_5, .bool x530002_5, .int .i64 x530003_5, .int .i64 x530004_5] 37 (0, 0)) (by exact BK529.out) hb); have n1_ := Aside0.mk (below_step (by exact HB.out) hb); have n2_ := Aside0.mk (hbox); have n3_ := Aside0.mk ((by rw [hg]; exact (below_size (by exact HB.out)) : w.heap.size ≤ gb544)); have n4_ := Aside0.mk ((by rw [hg]; exact (below_size (by exact HB.out)) : w.heap.size ≤ gb544)); have n5_ := Aside0.mk ((by rw [hg]; exact Nat.ne_of_lt (blk_lt (g := gb529) (o := .cells #[.int .i64 x530000_5, .string x530001_5, .bool x530002_5, .int .i64 x530003_5, .int .i64 x530004_5] 37 (0, 0)) (by exact BK529.out)) : gb529 ≠ gb544)); have n6_ := Aside0.mk ((by rw [hg]; exact Nat.ne_of_gt (blk_lt (g := gb529) (o := .cells #[.int .i64 x530000_5, .string x530001_5, .bool x530002_5, .int .i64 x530003_5, .int .i64 x530004_5] 37 (0, 0)) (by exact BK529.out)) : gb544 ≠ gb529)); clear BK529; clear HB; have BK529 := n0_; have HB := n1_; have BK544 := n2_; have GW544 := n3_; have GE544 := n4_; have NB529_544 := n5_; have NB544_529 := n6_; clear n0_ n1_ n2_ n3_ n4_ n5_ n6_; clear hb hbox hg; have hnb44 := NB544_529.out; have hnc44 := NB529_544.out; have hcz45_0 : w43.cell? ⟨gb544, 0, none⟩ = some (.int .i64 0) := (blk_cell BK544.out 0).trans rfl; have hcz45_1 : w43.cell? ⟨gb544, 1, none⟩ = some (.string (⟨#[]⟩ : ByteArray)) := (blk_cell BK544.out 1).trans rfl; have hcz45_2 : w43.cell? ⟨gb544, 2, none⟩ = some (.bool false) := (blk_cell BK544.out 2).trans rfl; have hcz45_3 : w43.cell? ⟨gb544, 3, none⟩ = some (.int .i64 0) := (blk_cell BK544.out 3).trans rfl; have hcz45_4 : w43.cell? ⟨gb544, 4, none⟩ = some (.int .i64 0) := (blk_cell BK544.out 4).trans rfl; have hfz45_0 := blk_frozen BK544.out 0; have hfz45_1 := blk_frozen BK544.out 1; have hfz45_2 := blk_frozen BK544.out 2; have hfz45_3 := blk_frozen BK544.out 3; have hfz45_4 := blk_frozen BK544.out 4; have hcz46_0 : w43.cell? ⟨gb529, 0, none⟩ = some (.int .i64 x530000_5) := (blk_cell BK529.out 0).trans rfl; have hcz46_1 : w43.cell? ⟨gb529, 1, none⟩ = some (.string x530001_5) := (blk_cell BK529.out 1).trans rfl; have hcz46_2 : w43.cell? ⟨gb529, 2, none⟩ = some (.bool x530002_5) := (blk_cell BK529.out 2).trans rfl; have hcz46_3 : w43.cell? ⟨gb529, 3, none⟩ = some (.int .i64 x530003_5) := (blk_cell BK529.out 3).trans rfl; have hcz46_4 : w43.cell? ⟨gb529, 4, none⟩ = some (.int .i64 x530004_5) := (blk_cell BK529.out 4).trans rfl; have hfz46_0 := blk_frozen BK529.out 0; have hfz46_1 := blk_frozen BK529.out 1; have hfz46_2 := blk_frozen BK529.out 2; have hfz46_3 := blk_frozen BK529.out 3; have hfz46_4 := blk_frozen BK529.out 4))
              refine bodyPost_ret (results_ctt rfl _ _ gb529 37 #[.int .i64 t539, .string t540, .bool t541, .int .i64 t542, .int .i64 t543] (0, 0) _ rfl (by refine blk_put (cs := #[.int .i64 t539, .string t540, .bool t541, .int .i64 t542, .int .i64 x530004_5]) ?_ 4 _ rfl; refine blk_put (cs := #[.int .i64 t539, .string t540, .bool t541, .int .i64 x530003_5, .int .i64 x530004_5]) ?_ 3 _ rfl; refine blk_put (cs := #[.int .i64 t539, .string t540, .bool x530002_5, .int .i64 x530003_5, .int .i64 x530004_5]) ?_ 2 _ rfl; refine blk_put (cs := #[.int .i64 t539, .string x530001_5, .bool x530002_5, .int .i64 x530003_5, .int .i64 x530004_5]) ?_ 1 _ rfl; refine blk_put (cs := #[.int .i64 x530000_5, .string x530001_5, .bool x530002_5, .int .i64 x530003_5, .int .i64 x530004_5]) ?_ 0 _ rfl; refine blk_far ?_ NB529_544.out _; refine blk_far ?_ NB529_544.out _; refine blk_far ?_ NB529_544.out _; refine blk_far ?_ NB529_544.out _; refine blk_far ?_ NB529_544.out _; exact BK529.out) Tryz.underlying37 rfl (by kernel_rfl)) rfl ?_
              exact ⟨by rfl, by repeat ((with_reducible first | exact HB.out | refine below_set ?_ GE529.out | refine below_set ?_ GE544.out))⟩
             ·rw [if_neg c41] at H
              have c41b0 : (t539 == 0) = false := beq_eq_false_iff_ne.mpr c41
              have c41b1 : (t539 != 0) = true := bne_iff_ne.mpr c41
              simp only [Option.some.injEq, Prod.mk.injEq] at H
              obtain ⟨rfl, rfl, rfl, rfl, rfl, rfl, rfl⟩ := H
              have p34 : 0 ≤ (x10_2 : Int) := of_decide_eq_true (by assumption)
              have q34 : x10_2 < (a0.size : Int) := of_decide_eq_true (by assumption)
              have hx34 := bt_at a0 x10_2
              replace p34 := eq_true p34
              replace q34 := eq_true q34
              go_wp2_with (first | (go_at_call 75; (with_reducible refine (tribunalref06_ends.calls (bt a0 x10_2) true _ A35.out).mono ?_); rintro e w' ⟨rfl, ⟨nd, rfl⟩⟩; (try (rw [drewN_self wr]; generalize hq_ : World.drewN wr _ = wr; have n0_ : Aside0 (wr.heap[gb529]? = some (.cells #[.int .i64 x530000_5, .string x530001_5, .bool x530002_5, .int .i64 x530003_5, .int .i64 x530004_5] 37 (0, 0))) := ⟨by rw [← hq_]; exact (by (with_reducible repeat (refine blk_drewN ?_ _)); exact BK529.out)⟩; have n1_ : Aside0 (Below w.heap.size w wr) := ⟨by rw [← hq_]; exact (by repeat ((with_reducible first | exact HB.out | apply pw_below_drewN)))⟩; clear BK529 HB hq_; have BK529 := n0_; have HB := n1_; clear n0_ n1_))) | ((with_reducible refine gate_callee (f := 76) rfl ?_); refine goesL_ (some 77) rfl rfl Tryz.func76 (by kernel_rfl) rfl #[.string (a0.extract (a1 : Int).toNat (x10_2 : Int).toNat)] rfl (by (try simp only [List.map_toArray, List.map_cons, List.map_nil]); rfl) ?_; (with_reducible refine (tribunalref06_bare.calls k2 (a0.extract (a1 : Int).toNat (x10_2 : Int).toNat) t539 t540 t541 t542 t543 _ A40.out).mono ?_); rintro e w47 ⟨rfl, hb⟩; refine ⟨_, rfl, ?_⟩; have n0_ := Aside0.mk (blk_below (g := gb529) (o := .cells #[.int .i64 x530000_5, .string x530001_5, .bool x530002_5, .int .i64 x530003_5, .int .i64 x530004_5] 37 (0, 0)) (by exact BK529.out) hb); have n1_ := Aside0.mk (below_step (by exact HB.out) hb); clear BK529; clear HB; have BK529 := n0_; have HB := n1_; clear n0_ n1_; (try clear hb); ) | ((with_reducible refine gate_dst (N := 11) rfl ?_); refine box_event ?hg (N := 11) ?hd (cs := #[.int .i64 0, .string (⟨#[]⟩ : ByteArray), .bool false, .int .i64 0, .int .i64 0]) (t := 37) ?hr ?_; (case hd => rfl); (case hg => rfl); (case hr => ((go_simp; done))); intro gb544 hg w48 hbox hb; have n0_ := Aside0.mk (blk_below (g := gb529) (o := .cells #[.int .i64 x530000_5, .string x530001_5, .bool x530002_5, .int .i64 x530003_5, .int .i64 x530004_5] 37 (0, 0)) (by exact BK529.out) hb); have n1_ := Aside0.mk (below_step (by exact HB.out) hb); have n2_ := Aside0.mk (hbox); have n3_ := Aside0.mk ((by rw [hg]; exact (below_size (by exact HB.out)) : w.heap.size ≤ gb544)); have n4_ := Aside0.mk ((by rw [hg]; exact (below_size (by exact HB.out)) : w.heap.size ≤ gb544)); have n5_ := Aside0.mk ((by rw [hg]; exact Nat.ne_of_lt (blk_lt (g := gb529) (o := .cells #[.int .i64 x530000_5, .string x530001_5, .bool x530002_5, .int .i64 x530003_5, .int .i64 x530004_5] 37 (0, 0)) (by exact BK529.out)) : gb529 ≠ gb544)); have n6_ := Aside0.mk ((by rw [hg]; exact Nat.ne_of_gt (blk_lt (g := gb529) (o := .cells #[.int .i64 x530000_5, .string x530001_5, .bool x530002_5, .int .i64 x530003_5, .int .i64 x530004_5] 37 (0, 0)) (by exact BK529.out)) : gb544 ≠ gb529)); clear BK529; clear HB; have BK529 := n0_; have HB := n1_; have BK544 := n2_; have GW544 := n3_; have GE544 := n4_; have NB529_544 := n5_; have NB544_529 := n6_; clear n0_ n1_ n2_ n3_ n4_ n5_ n6_; clear hb hbox hg; have hnb49 := NB544_529.out; have hnc49 := NB529_544.out; have hcz50_0 : w48.cell? ⟨gb544, 0, none⟩ = some (.int .i64 0) := (blk_cell BK544.out 0).trans rfl; have hcz50_1 : w48.cell? ⟨gb544, 1, none⟩ = some (.string (⟨#[]⟩ : ByteArray)) := (blk_cell BK544.out 1).trans rfl; have hcz50_2 : w48.cell? ⟨gb544, 2, none⟩ = some (.bool false) := (blk_cell BK544.out 2).trans rfl; have hcz50_3 : w48.cell? ⟨gb544, 3, none⟩ = some (.int .i64 0) := (blk_cell BK544.out 3).trans rfl; have hcz50_4 : w48.cell? ⟨gb544, 4, none⟩ = some (.int .i64 0) := (blk_cell BK544.out 4).trans rfl; have hfz50_0 := blk_frozen BK544.out 0; have hfz50_1 := blk_frozen BK544.out 1; have hfz50_2 := blk_frozen BK544.out 2; have hfz50_3 := blk_frozen BK544.out 3; have hfz50_4 := blk_frozen BK544.out 4; have hcz51_0 : w48.cell? ⟨gb529, 0, none⟩ = some (.int .i64 x530000_5) := (blk_cell BK529.out 0).trans rfl; have hcz51_1 : w48.cell? ⟨gb529, 1, none⟩ = some (.string x530001_5) := (blk_cell BK529.out 1).trans rfl; have hcz51_2 : w48.cell? ⟨gb529, 2, none⟩ = some (.bool x530002_5) := (blk_cell BK529.out 2).trans rfl; have hcz51_3 : w48.cell? ⟨gb529, 3, none⟩ = some (.int .i64 x530003_5) := (blk_cell BK529.out 3).trans rfl; have hcz51_4 : w48.cell? ⟨gb529, 4, none⟩ = some (.int .i64 x530004_5) := (blk_cell BK529.out 4).trans rfl; have hfz51_0 := blk_frozen BK529.out 0; have hfz51_1 := blk_frozen BK529.out 1; have hfz51_2 := blk_frozen BK529.out 2; have hfz51_3 := blk_frozen BK529.out 3; have hfz51_4 := blk_frozen BK529.out 4))
              refine bodyPost_ret (results_ctt rfl _ _ gb529 37 #[.int .i64 t539, .string t540, .bool t541, .int .i64 t542, .int .i64 t543] (0, 0) _ rfl (by refine blk_put (cs := #[.int .i64 t539, .string t540, .bool t541, .int .i64 t542, .int .i64 x530004_5]) ?_ 4 _ rfl; refine blk_put (cs := #[.int .i64 t539, .string t540, .bool t541, .int .i64 x530003_5, .int .i64 x530004_5]) ?_ 3 _ rfl; refine blk_put (cs := #[.int .i64 t539, .string t540, .bool x530002_5, .int .i64 x530003_5, .int .i64 x530004_5]) ?_ 2 _ rfl; refine blk_put (cs := #[.int .i64 t539, .string x530001_5, .bool x530002_5, .int .i64 x530003_5, .int .i64 x530004_5]) ?_ 1 _ rfl; refine blk_put (cs := #[.int .i64 x530000_5, .string x530001_5, .bool x530002_5, .int .i64 x530003_5, .int .i64 x530004_5]) ?_ 0 _ rfl; refine blk_far ?_ NB529_544.out _; refine blk_far ?_ NB529_544.out _; refine blk_far ?_ NB529_544.out _; refine blk_far ?_ NB529_544.out _; refine blk_far ?_ NB529_544.out _; exact BK529.out) Tryz.underlying37 rfl (by kernel_rfl)) rfl ?_
              exact ⟨by rfl, by repeat ((with_reducible first | exact HB.out | refine below_set ?_ GE529.out | refine below_set ?_ GE544.out))⟩
            ·rw [if_neg c39] at H
             exact absurd H (by simp)
           ·rw [if_neg c38] at H
            exact absurd H (by simp)
          ·rw [if_neg c37] at H
           exact absurd H (by simp)
         ·replace c36 := Bool.eq_false_iff.mpr c36
          subst c36
          have H1 : (tribunalref06_one.l0 k2 a0 a1 (wrap64 (x10_2 + 1))) = some (r1, r2, r3, r4, r5, r6, r7) := by rw [if_neg (show ¬ (false = true) by decide)] at H; exact H
          clear H
          have H := H1
          clear H1
          have H' := Aside0.mk H
          clear H
          have p34 : 0 ≤ (x10_2 : Int) := of_decide_eq_true (by assumption)
          have q34 : x10_2 < (a0.size : Int) := of_decide_eq_true (by assumption)
          have hx34 := bt_at a0 x10_2
          replace p34 := eq_true p34
          replace q34 := eq_true q34
          go_wp2_with (((go_at_call 75; (with_reducible refine (tribunalref06_ends.calls (bt a0 x10_2) false _ A35.out).mono ?_); rintro e w' ⟨rfl, ⟨nd, rfl⟩⟩)))
          go_roundg k2
          case measure => have := HJ5.out; have := HK2.out; omega
          case rel => exact ⟨(wrap64 (x10_2 + 1)), (by rfl), H', ⟨by have := HJ5.out; have := HK2.out; omega⟩, ⟨by (with_reducible repeat (refine blk_drewN ?_ _)); exact BK529.out⟩, ⟨by repeat ((with_reducible first | exact HB.out | apply pw_below_drewN))⟩⟩
        ·rw [if_neg c33] at H
         exact absurd H (by simp)
       ·rw [if_neg c32] at H
        have c32b0 : decide (x10_2 < (a0.size : Int)) = false := decide_eq_false c32
        clear c32
        by_cases c52 : 0 ≤ a1
        ·rw [if_pos c52] at H
         have c52b0 := eq_true c52
         have c52b1 : decide (0 ≤ a1) = true := decide_eq_true c52
         clear c52
         by_cases c53 : a1 ≤ x10_2
         ·rw [if_pos c53] at H
          have c53b0 := eq_true c53
          have c53b1 : decide (a1 ≤ x10_2) = true := decide_eq_true c53
          clear c53
          by_cases c54 : x10_2 ≤ (a0.size : Int)
          ·rw [if_pos c54] at H
           have c54b0 := eq_true c54
           have c54b1 : decide (x10_2 ≤ (a0.size : Int)) = true := decide_eq_true c54
           clear c54
           replace H := Option.bind_eq_some_iff.mp H
           obtain ⟨⟨t545, t546, t547, t548, t549⟩, A550, H⟩ := H
           replace H : (if t545 = 0 then (some (t545, t546, t547, t548, t549, 0, 62)) else (some (t545, t546, t547, t548, t549, x10_2, 0))) = some (r1, r2, r3, r4, r5, r6, r7) := H
           have A55 := Aside0.mk A550
           clear A550
           by_cases c56 : t545 = 0
           ·rw [if_pos c56] at H
            have c56b0 : (t545 == 0) = true := beq_iff_eq.mpr c56
            have c56b1 : (t545 != 0) = false := bne_eq_false_iff_eq.mpr c56
            clear c56
            simp only [Option.some.injEq, Prod.mk.injEq] at H
            obtain ⟨rfl, rfl, rfl, rfl, rfl, rfl, rfl⟩ := H
            go_wp2_with (first | ((with_reducible refine gate_callee (f := 76) rfl ?_); refine goesL_ (some 77) rfl rfl Tryz.func76 (by kernel_rfl) rfl #[.string (a0.extract (a1 : Int).toNat (x10_2 : Int).toNat)] rfl (by (try simp only [List.map_toArray, List.map_cons, List.map_nil]); rfl) ?_; (with_reducible refine (tribunalref06_bare.calls k2 (a0.extract (a1 : Int).toNat (x10_2 : Int).toNat) t545 t546 t547 t548 t549 _ A55.out).mono ?_); rintro e w57 ⟨rfl, hb⟩; refine ⟨_, rfl, ?_⟩; have n0_ := Aside0.mk (blk_below (g := gb529) (o := .cells #[.int .i64 x530000_5, .string x530001_5, .bool x530002_5, .int .i64 x530003_5, .int .i64 x530004_5] 37 (0, 0)) (by exact BK529.out) hb); have n1_ := Aside0.mk (below_step (by exact HB.out) hb); clear BK529; clear HB; have BK529 := n0_; have HB := n1_; clear n0_ n1_; (try clear hb); ) | ((with_reducible refine gate_dst (N := 11) rfl ?_); refine box_event ?hg (N := 11) ?hd (cs := #[.int .i64 0, .string (⟨#[]⟩ : ByteArray), .bool false, .int .i64 0, .int .i64 0]) (t := 37) ?hr ?_; (case hd => rfl); (case hg => rfl); (case hr => ((go_simp; done))); intro gb550 hg w58 hbox hb; have n0_ := Aside0.mk (blk_below (g := gb529) (o := .cells #[.int .i64 x530000_5, .string x530001_5, .bool x530002_5, .int .i64 x530003_5, .int .i64 x530004_5] 37 (0, 0)) (by exact BK529.out) hb); have n1_ := Aside0.mk (below_step (by exact HB.out) hb); have n2_ := Aside0.mk (hbox); have n3_ := Aside0.mk ((by rw [hg]; exact (below_size (by exact HB.out)) : w.heap.size ≤ gb550)); have n4_ := Aside0.mk ((by rw [hg]; exact (below_size (by exact HB.out)) : w.heap.size ≤ gb550)); have n5_ := Aside0.mk ((by rw [hg]; exact Nat.ne_of_lt (blk_lt (g := gb529) (o := .cells #[.int .i64 x530000_5, .string x530001_5, .bool x530002_5, .int .i64 x530003_5, .int .i64 x530004_5] 37 (0, 0)) (by exact BK529.out)) : gb529 ≠ gb550)); have n6_ := Aside0.mk ((by rw [hg]; exact Nat.ne_of_gt (blk_lt (g := gb529) (o := .cells #[.int .i64 x530000_5, .string x530001_5, .bool x530002_5, .int .i64 x530003_5, .int .i64 x530004_5] 37 (0, 0)) (by exact BK529.out)) : gb550 ≠ gb529)); clear BK529; clear HB; have BK529 := n0_; have HB := n1_; have BK550 := n2_; have GW550 := n3_; have GE550 := n4_; have NB529_550 := n5_; have NB550_529 := n6_; clear n0_ n1_ n2_ n3_ n4_ n5_ n6_; clear hb hbox hg; have hnb59 := NB550_529.out; have hnc59 := NB529_550.out; have hcz60_0 : w58.cell? ⟨gb550, 0, none⟩ = some (.int .i64 0) := (blk_cell BK550.out 0).trans rfl; have hcz60_1 : w58.cell? ⟨gb550, 1, none⟩ = some (.string (⟨#[]⟩ : ByteArray)) := (blk_cell BK550.out 1).trans rfl; have hcz60_2 : w58.cell? ⟨gb550, 2, none⟩ = some (.bool false) := (blk_cell BK550.out 2).trans rfl; have hcz60_3 : w58.cell? ⟨gb550, 3, none⟩ = some (.int .i64 0) := (blk_cell BK550.out 3).trans rfl; have hcz60_4 : w58.cell? ⟨gb550, 4, none⟩ = some (.int .i64 0) := (blk_cell BK550.out 4).trans rfl; have hfz60_0 := blk_frozen BK550.out 0; have hfz60_1 := blk_frozen BK550.out 1; have hfz60_2 := blk_frozen BK550.out 2; have hfz60_3 := blk_frozen BK550.out 3; have hfz60_4 := blk_frozen BK550.out 4; have hcz61_0 : w58.cell? ⟨gb529, 0, none⟩ = some (.int .i64 x530000_5) := (blk_cell BK529.out 0).trans rfl; have hcz61_1 : w58.cell? ⟨gb529, 1, none⟩ = some (.string x530001_5) := (blk_cell BK529.out 1).trans rfl; have hcz61_2 : w58.cell? ⟨gb529, 2, none⟩ = some (.bool x530002_5) := (blk_cell BK529.out 2).trans rfl; have hcz61_3 : w58.cell? ⟨gb529, 3, none⟩ = some (.int .i64 x530003_5) := (blk_cell BK529.out 3).trans rfl; have hcz61_4 : w58.cell? ⟨gb529, 4, none⟩ = some (.int .i64 x530004_5) := (blk_cell BK529.out 4).trans rfl; have hfz61_0 := blk_frozen BK529.out 0; have hfz61_1 := blk_frozen BK529.out 1; have hfz61_2 := blk_frozen BK529.out 2; have hfz61_3 := blk_frozen BK529.out 3; have hfz61_4 := blk_frozen BK529.out 4))
            refine bodyPost_ret (results_ctt rfl _ _ gb529 37 #[.int .i64 t545, .string t546, .bool t547, .int .i64 t548, .int .i64 t549] (0, 0) _ rfl (by refine blk_put (cs := #[.int .i64 t545, .string t546, .bool t547, .int .i64 t548, .int .i64 x530004_5]) ?_ 4 _ rfl; refine blk_put (cs := #[.int .i64 t545, .string t546, .bool t547, .int .i64 x530003_5, .int .i64 x530004_5]) ?_ 3 _ rfl; refine blk_put (cs := #[.int .i64 t545, .string t546, .bool x530002_5, .int .i64 x530003_5, .int .i64 x530004_5]) ?_ 2 _ rfl; refine blk_put (cs := #[.int .i64 t545, .string x530001_5, .bool x530002_5, .int .i64 x530003_5, .int .i64 x530004_5]) ?_ 1 _ rfl; refine blk_put (cs := #[.int .i64 x530000_5, .string x530001_5, .bool x530002_5, .int .i64 x530003_5, .int .i64 x530004_5]) ?_ 0 _ rfl; refine blk_far ?_ NB529_550.out _; refine blk_far ?_ NB529_550.out _; refine blk_far ?_ NB529_550.out _; refine blk_far ?_ NB529_550.out _; refine blk_far ?_ NB529_550.out _; exact BK529.out) Tryz.underlying37 rfl (by kernel_rfl)) rfl ?_
            exact ⟨by rfl, by repeat ((with_reducible first | exact HB.out | refine below_set ?_ GE529.out | refine below_set ?_ GE550.out))⟩
           ·rw [if_neg c56] at H
            have c56b0 : (t545 == 0) = false := beq_eq_false_iff_ne.mpr c56
            have c56b1 : (t545 != 0) = true := bne_iff_ne.mpr c56
            simp only [Option.some.injEq, Prod.mk.injEq] at H
            obtain ⟨rfl, rfl, rfl, rfl, rfl, rfl, rfl⟩ := H
            go_wp2_with (first | ((with_reducible refine gate_callee (f := 76) rfl ?_); refine goesL_ (some 77) rfl rfl Tryz.func76 (by kernel_rfl) rfl #[.string (a0.extract (a1 : Int).toNat (x10_2 : Int).toNat)] rfl (by (try simp only [List.map_toArray, List.map_cons, List.map_nil]); rfl) ?_; (with_reducible refine (tribunalref06_bare.calls k2 (a0.extract (a1 : Int).toNat (x10_2 : Int).toNat) t545 t546 t547 t548 t549 _ A55.out).mono ?_); rintro e w62 ⟨rfl, hb⟩; refine ⟨_, rfl, ?_⟩; have n0_ := Aside0.mk (blk_below (g := gb529) (o := .cells #[.int .i64 x530000_5, .string x530001_5, .bool x530002_5, .int .i64 x530003_5, .int .i64 x530004_5] 37 (0, 0)) (by exact BK529.out) hb); have n1_ := Aside0.mk (below_step (by exact HB.out) hb); clear BK529; clear HB; have BK529 := n0_; have HB := n1_; clear n0_ n1_; (try clear hb); ) | ((with_reducible refine gate_dst (N := 11) rfl ?_); refine box_event ?hg (N := 11) ?hd (cs := #[.int .i64 0, .string (⟨#[]⟩ : ByteArray), .bool false, .int .i64 0, .int .i64 0]) (t := 37) ?hr ?_; (case hd => rfl); (case hg => rfl); (case hr => ((go_simp; done))); intro gb550 hg w63 hbox hb; have n0_ := Aside0.mk (blk_below (g := gb529) (o := .cells #[.int .i64 x530000_5, .string x530001_5, .bool x530002_5, .int .i64 x530003_5, .int .i64 x530004_5] 37 (0, 0)) (by exact BK529.out) hb); have n1_ := Aside0.mk (below_step (by exact HB.out) hb); have n2_ := Aside0.mk (hbox); have n3_ := Aside0.mk ((by rw [hg]; exact (below_size (by exact HB.out)) : w.heap.size ≤ gb550)); have n4_ := Aside0.mk ((by rw [hg]; exact (below_size (by exact HB.out)) : w.heap.size ≤ gb550)); have n5_ := Aside0.mk ((by rw [hg]; exact Nat.ne_of_lt (blk_lt (g := gb529) (o := .cells #[.int .i64 x530000_5, .string x530001_5, .bool x530002_5, .int .i64 x530003_5, .int .i64 x530004_5] 37 (0, 0)) (by exact BK529.out)) : gb529 ≠ gb550)); have n6_ := Aside0.mk ((by rw [hg]; exact Nat.ne_of_gt (blk_lt (g := gb529) (o := .cells #[.int .i64 x530000_5, .string x530001_5, .bool x530002_5, .int .i64 x530003_5, .int .i64 x530004_5] 37 (0, 0)) (by exact BK529.out)) : gb550 ≠ gb529)); clear BK529; clear HB; have BK529 := n0_; have HB := n1_; have BK550 := n2_; have GW550 := n3_; have GE550 := n4_; have NB529_550 := n5_; have NB550_529 := n6_; clear n0_ n1_ n2_ n3_ n4_ n5_ n6_; clear hb hbox hg; have hnb64 := NB550_529.out; have hnc64 := NB529_550.out; have hcz65_0 : w63.cell? ⟨gb550, 0, none⟩ = some (.int .i64 0) := (blk_cell BK550.out 0).trans rfl; have hcz65_1 : w63.cell? ⟨gb550, 1, none⟩ = some (.string (⟨#[]⟩ : ByteArray)) := (blk_cell BK550.out 1).trans rfl; have hcz65_2 : w63.cell? ⟨gb550, 2, none⟩ = some (.bool false) := (blk_cell BK550.out 2).trans rfl; have hcz65_3 : w63.cell? ⟨gb550, 3, none⟩ = some (.int .i64 0) := (blk_cell BK550.out 3).trans rfl; have hcz65_4 : w63.cell? ⟨gb550, 4, none⟩ = some (.int .i64 0) := (blk_cell BK550.out 4).trans rfl; have hfz65_0 := blk_frozen BK550.out 0; have hfz65_1 := blk_frozen BK550.out 1; have hfz65_2 := blk_frozen BK550.out 2; have hfz65_3 := blk_frozen BK550.out 3; have hfz65_4 := blk_frozen BK550.out 4; have hcz66_0 : w63.cell? ⟨gb529, 0, none⟩ = some (.int .i64 x530000_5) := (blk_cell BK529.out 0).trans rfl; have hcz66_1 : w63.cell? ⟨gb529, 1, none⟩ = some (.string x530001_5) := (blk_cell BK529.out 1).trans rfl; have hcz66_2 : w63.cell? ⟨gb529, 2, none⟩ = some (.bool x530002_5) := (blk_cell BK529.out 2).trans rfl; have hcz66_3 : w63.cell? ⟨gb529, 3, none⟩ = some (.int .i64 x530003_5) := (blk_cell BK529.out 3).trans rfl; have hcz66_4 : w63.cell? ⟨gb529, 4, none⟩ = some (.int .i64 x530004_5) := (blk_cell BK529.out 4).trans rfl; have hfz66_0 := blk_frozen BK529.out 0; have hfz66_1 := blk_frozen BK529.out 1; have hfz66_2 := blk_frozen BK529.out 2; have hfz66_3 := blk_frozen BK529.out 3; have hfz66_4 := blk_frozen BK529.out 4))
            refine bodyPost_ret (results_ctt rfl _ _ gb529 37 #[.int .i64 t545, .string t546, .bool t547, .int .i64 t548, .int .i64 t549] (0, 0) _ rfl (by refine blk_put (cs := #[.int .i64 t545, .string t546, .bool t547, .int .i64 t548, .int .i64 x530004_5]) ?_ 4 _ rfl; refine blk_put (cs := #[.int .i64 t545, .string t546, .bool t547, .int .i64 x530003_5, .int .i64 x530004_5]) ?_ 3 _ rfl; refine blk_put (cs := #[.int .i64 t545, .string t546, .bool x530002_5, .int .i64 x530003_5, .int .i64 x530004_5]) ?_ 2 _ rfl; refine blk_put (cs := #[.int .i64 t545, .string x530001_5, .bool x530002_5, .int .i64 x530003_5, .int .i64 x530004_5]) ?_ 1 _ rfl; refine blk_put (cs := #[.int .i64 x530000_5, .string x530001_5, .bool x530002_5, .int .i64 x530003_5, .int .i64 x530004_5]) ?_ 0 _ rfl; refine blk_far ?_ NB529_550.out _; refine blk_far ?_ NB529_550.out _; refine blk_far ?_ NB529_550.out _; refine blk_far ?_ NB529_550.out _; refine blk_far ?_ NB529_550.out _; exact BK529.out) Tryz.underlying37 rfl (by kernel_rfl)) rfl ?_
            exact ⟨by rfl, by repeat ((with_reducible first | exact HB.out | refine below_set ?_ GE529.out | refine below_set ?_ GE550.out))⟩
          ·rw [if_neg c54] at H
           exact absurd H (by simp)
         ·rw [if_neg c53] at H
          exact absurd H (by simp)
        ·rw [if_neg c52] at H
         exact absurd H (by simp)
  ·rw [if_neg c4] at H
   exact absurd H (by simp)
 ·rw [if_neg c3] at H
  exact absurd H (by simp)

end Go.Proofs.YthklnopfgoekeaaGreatDoor.X
