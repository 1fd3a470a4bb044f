-- written by this session's wip/pr.py, which runs the kit's printer
import Derived.Test.YthklnopfgoekeaaGreatDoorX0
import Derived.Test.YthklnopfgoekeaaGreatDoorX1
import Derived.Test.YthklnopfgoekeaaGreatDoorPAlive
import Derived.Test.YthklnopfgoekeaaGreatDoorHHeads
import Derived.Test.YthklnopfgoekeaaGreatDoorHParse
import Derived.Test.YthklnopfgoekeaaGreatDoorHRParse
namespace Go.Proofs.YthklnopfgoekeaaGreatDoor.X
open Go.RowKit Go.Proofs.YthklnopfgoekeaaGreatDoorW.PrintWords Go.Proofs.YthklnopfgoekeaaGreatDoorW.PrintLast Go.Proofs.YthklnopfgoekeaaGreatDoorW.PrintMore
attribute [local go_sem] max2_int min2_int max_two min_two max_three min_three max_four min_four   -- for this text's walks alone
set_option linter.unusedVariables false
set_option linter.unusedSimpArgs false

attribute [local go_sem high] eqA37
/-! ### tribunallaw07_SexpOwn: function 6 -/
mutual
def tribunallaw07_SexpOwn.l0 : Nat → List (S37) → List (S37) → List (S56) → List Int → Int → List (S56) → List Int → Int → Int → Option (Bool)
 | 0, _, _, _, _, _, _, _, _, _ => none
 | k + 1, x0, x3, x4, x5, x8, x9, x10, x13, x14 => if x14 < (x3.length : Int) then (if 0 ≤ x14 then (if x14 < (x0.length : Int) then (if (!(((rd_T37 x3 x14).f0) == ((rd_T37 x0 x14).f0)) || (!((((rd_T37 x3 x14).f1).toList) == (((rd_T37 x0 x14).f1).toList)) || (!(((rd_T37 x3 x14).f2) == ((rd_T37 x0 x14).f2)) || (!(((rd_T37 x3 x14).f3) == ((rd_T37 x0 x14).f3)) || (!(((rd_T37 x3 x14).f4) == ((rd_T37 x0 x14).f4))))))) = true then (some false) else (tribunallaw07_SexpOwn.l0 k x0 (x3.set (x14 : Int).toNat (⟨0, (⟨#[116, 117, 114, 110, 101, 100]⟩ : ByteArray), false, 0, 0⟩ : S37)) x4 x5 x8 x9 x10 x13 (wrap64 (x14 + 1)))) else (none)) else (none)) else (if x8 = x13 then ((tribunalref07_Same.f x4 x9).bind fun t344 => (if t344 = true then ((tribunalref07_SameInts.f x5 x10).bind fun t345 => (tribunallaw07_SexpOwn.j1 k x4 x9 (!t345))) else (tribunallaw07_SexpOwn.j1 k x4 x9 true))) else (tribunallaw07_SexpOwn.j1 k x4 x9 true))
def tribunallaw07_SexpOwn.j1 : Nat → List (S56) → List (S56) → Bool → Option (Bool)
 | 0, _, _, _ => none
 | k + 1, x4, x9, x70 => if x70 = true then (some false) else (tribunallaw07_SexpOwn.l1 k x4 x9 0)
def tribunallaw07_SexpOwn.l1 : Nat → List (S56) → List (S56) → Int → Option (Bool)
 | 0, _, _, _ => none
 | k + 1, x4, x9, x15 => if x15 < (x4.length : Int) then ((sexp_Kids.f x4 x15).bind fun t348 => (tribunallaw07_SexpOwn.l2 k x4 x9 x15 t348 0)) else ((tribunalref07_Same.f x4 x9).bind fun t346 => (if t346 = true then ((tribunallaw07_alive.f k).bind fun t347 => (some t347)) else (some false)))
def tribunallaw07_SexpOwn.l2 : Nat → List (S56) → List (S56) → Int → List Int → Int → Option (Bool)
 | 0, _, _, _, _, _ => none
 | k + 1, x4, x9, x15, x16, x17 => if x17 < (x16.length : Int) then (if 0 ≤ x17 then (tribunallaw07_SexpOwn.l2 k x4 x9 x15 (x16.set (x17 : Int).toNat (-1)) (wrap64 (x17 + 1))) else (none)) else (if x16.length < 17592186044416 then (if 0 ≤ x15 then (if x15 < (x4.length : Int) then (if ((x16 ++ [7]).length : Int) = (wrap64 ((((rd_T56 x4 x15).f2).length : Int) + 1)) then (tribunallaw07_SexpOwn.l1 k x4 x9 (wrap64 (x15 + 1))) else (some false)) else (none)) else (none)) else (none))
end
def tribunallaw07_SexpOwn.f (k : Nat) (l0 : List (S37)) : Option (Bool) := if ([] : List (S37)).length + l0.length < 2932031007402 then ((some (([] : List (S37)) ++ l0 : List (S37))).bind fun y320 => ((sexp_Parse.f y320).bind fun bt323 => ((tribunalref07_Parse.f l0).bind fun bt332 => (tribunallaw07_SexpOwn.l0 k l0 y320 bt323.1 bt323.2.1 bt323.2.2.2.2 bt332.1 bt332.2.1 bt332.2.2.2.2 0)))) else (none)
theorem tribunallaw07_SexpOwn.mono_l : ∀ k, (∀ y0 y1 y2 y3 y4 y5 y6 y7 y8, LeO (tribunallaw07_SexpOwn.l0 k y0 y1 y2 y3 y4 y5 y6 y7 y8) (tribunallaw07_SexpOwn.l0 (k + 1) y0 y1 y2 y3 y4 y5 y6 y7 y8)) ∧ (∀ y0 y1 y2, LeO (tribunallaw07_SexpOwn.j1 k y0 y1 y2) (tribunallaw07_SexpOwn.j1 (k + 1) y0 y1 y2)) ∧ (∀ y0 y1 y2, LeO (tribunallaw07_SexpOwn.l1 k y0 y1 y2) (tribunallaw07_SexpOwn.l1 (k + 1) y0 y1 y2)) ∧ (∀ y0 y1 y2 y3 y4, LeO (tribunallaw07_SexpOwn.l2 k y0 y1 y2 y3 y4) (tribunallaw07_SexpOwn.l2 (k + 1) y0 y1 y2 y3 y4))
 | 0 => ⟨fun _ _ _ _ _ _ _ _ _ r h => by simp [tribunallaw07_SexpOwn.l0] at h, fun _ _ _ r h => by simp [tribunallaw07_SexpOwn.j1] at h, fun _ _ _ r h => by simp [tribunallaw07_SexpOwn.l1] at h, fun _ _ _ _ _ r h => by simp [tribunallaw07_SexpOwn.l2] at h⟩
 | k + 1 => by
  obtain ⟨ih0, ih1, ih2, ih3⟩ := tribunallaw07_SexpOwn.mono_l k
  refine ⟨?_, ?_, ?_, ?_⟩
  ·intro y0 y1 y2 y3 y4 y5 y6 y7 y8
   unfold tribunallaw07_SexpOwn.l0
   repeat' first
   | (with_reducible exact ih0 _ _ _ _ _ _ _ _ _)
   | (with_reducible exact ih1 _ _ _)
   | (with_reducible exact LeO.refl _)
   | (with_reducible refine LeO.ite ?_ ?_)
   | (with_reducible refine LeO.bind ?_ (fun _ => ?_))
  ·intro y0 y1 y2
   unfold tribunallaw07_SexpOwn.j1
   repeat' first
   | (with_reducible exact ih2 _ _ _)
   | (with_reducible exact LeO.refl _)
   | (with_reducible refine LeO.ite ?_ ?_)
  ·intro y0 y1 y2
   unfold tribunallaw07_SexpOwn.l1
   repeat' first
   | (with_reducible exact ih3 _ _ _ _ _)
   | (with_reducible exact tribunallaw07_alive.mono _)
   | (with_reducible exact LeO.refl _)
   | (with_reducible refine LeO.ite ?_ ?_)
   | (with_reducible refine LeO.bind ?_ (fun _ => ?_))
  ·intro y0 y1 y2 y3 y4
   unfold tribunallaw07_SexpOwn.l2
   repeat' first
   | (with_reducible exact ih2 _ _ _)
   | (with_reducible exact ih3 _ _ _ _ _)
   | (with_reducible exact LeO.refl _)
   | (with_reducible refine LeO.ite ?_ ?_)
theorem tribunallaw07_SexpOwn.mono : ∀ a0 k, LeO (tribunallaw07_SexpOwn.f k a0) (tribunallaw07_SexpOwn.f (k + 1) a0) := by
 intro a0 k
 obtain ⟨ih0, ih1, ih2, ih3⟩ := tribunallaw07_SexpOwn.mono_l k
 unfold tribunallaw07_SexpOwn.f
 repeat' first
  | (with_reducible exact ih0 _ _ _ _ _ _ _ _ _)
  | (with_reducible exact LeO.refl _)
  | (with_reducible refine LeO.ite ?_ ?_)
  | (with_reducible refine LeO.bind ?_ (fun _ => ?_))
set_option maxHeartbeats 8000000 in
set_option maxRecDepth 100000 in
theorem tribunallaw07_SexpOwn.calls (k : Nat) (A0 : Option Addr) (c0 : Nat) (l0 : List (S37)) (r : Bool) (w : World) (hr0 : Kd.C k37 w A0 l0.length l0) (hc0 : l0.length ≤ c0) (h : tribunallaw07_SexpOwn.f k l0 = some r) :
 Calls Tryz.prog 6 #[.slice A0 l0.length c0] w fun e w' => e = .returned (.bool r) ∧ Below w.heap.size w w' := by
 have hu37 := Tryz.underlying37
 have HR0 := Aside0.mk hr0
 have HC0 := Aside0.mk hc0
 clear hr0 hc0
 have HB := Aside0.mk (Below.refl w.heap.size w)
 have H : (if ([] : List (S37)).length + l0.length < 2932031007402 then ((some (([] : List (S37)) ++ l0 : List (S37))).bind fun y320 => ((sexp_Parse.f y320).bind fun bt323 => ((tribunalref07_Parse.f l0).bind fun bt332 => (tribunallaw07_SexpOwn.l0 k l0 y320 bt323.1 bt323.2.1 bt323.2.2.2.2 bt332.1 bt332.2.1 bt332.2.2.2.2 0)))) else (none)) = some r := h
 clear h
 by_cases c2 : ([] : List (S37)).length + l0.length < 2932031007402
 ·rw [if_pos c2] at H
  have LMc2 := Aside0.mk c2
  clear c2
  obtain ⟨y320, hy320⟩ : ∃ y_ : List (S37), y_ = (([] : List (S37)) ++ l0) := ⟨_, rfl⟩
  replace H : ((sexp_Parse.f y320).bind fun bt323 => ((tribunalref07_Parse.f l0).bind fun bt332 => (tribunallaw07_SexpOwn.l0 k l0 y320 bt323.1 bt323.2.1 bt323.2.2.2.2 bt332.1 bt332.2.1 bt332.2.2.2.2 0))) = some r := by ((have H2_ := (Option.bind_some _ _).symm.trans H; rw [hy320]; with_reducible exact H2_))
  have Ny320 := Aside0.mk hy320
  clear hy320
  replace H := Option.bind_eq_some_iff.mp H
  obtain ⟨⟨t323, t324, t325, t326, t327⟩, A30, H⟩ := H
  replace H : ((tribunalref07_Parse.f l0).bind fun bt332 => (tribunallaw07_SexpOwn.l0 k l0 y320 t323 t324 t327 bt332.1 bt332.2.1 bt332.2.2.2.2 0)) = some r := H
  have A3 := Aside0.mk A30
  clear A30
  replace H := Option.bind_eq_some_iff.mp H
  obtain ⟨⟨t332, t333, t334, t335, t336⟩, A40, H⟩ := H
  replace H : (tribunallaw07_SexpOwn.l0 k l0 y320 t323 t324 t327 t332 t333 t336 0) = some r := H
  have A4 := Aside0.mk A40
  clear A40
  have H' := Aside0.mk H
  clear H
  go_enter Tryz.func6, Tryz.ntmps6
  go_wp2_with (first | ((with_reducible refine gate_builtin (b := .append) (xs := #[.tmp 18, .tmp 19]) rfl ?_); at_builtin; refine Kd.R_append_rows k37 (w0 := w) w.heap.size rfl (.tmp 18) (.tmp 19) 48 37 (.agg #[(.int .i64 0), (.string ⟨#[]⟩), (.bool false), (.int .i64 0), (.int .i64 0)]) 48 rfl Tryz.underlying48 info37 rfl (by decide) (by omega) (.slice none 0 0) ([] : List (S37)) l0 _ _ _ (fun _ => True) (fun _ => False) rfl rfl ?aO ?aR (fun _ _ h => h) (fun _ h => h.elim) ?aF ?aB ?aS ?aL ?_; (case aR => repeat (exact HR0.out)); (case aB => exact (by exact HB.out)); (case aF => exact (fun _ _ => trivial)); (case aO => exact ((Kd.R_nil _ _ _ _ (fun _ => True)))); (case aS => exact (below_size (by exact HB.out))); (case aL => have := LMc2.out; omega); intro v321 w5 ho hb hg hat; rw [← Ny320.out] at ho; have n0_ := Aside0.mk (hb); have n1_ := Aside0.mk (ho); clear HB; have HB := n0_; have HO322 := n1_; clear n0_ n1_; clear ho hb hg hat; obtain ⟨Ao6, co6, eo6⟩ := Kd.R_slice HO322.out; subst eo6) | (go_at_call 24; (with_reducible refine (sexp_Parse.calls _ _ y320 t323 t324 t325 t326 t327 _ ?side1 ?side2 A3.out).mono ?_); (case side1 => repeat (exact (Kd.R_reads' HO322.out).2.2)); (case side2 => exact (Kd.R_reads' HO322.out).2.1); rintro e w7 ⟨v328, v330, rfl, ho0, ho1, hb⟩; have n0_ := Aside0.mk (Kd.R_below (by exact HO322.out) hb); have n1_ := Aside0.mk (Kd.S_lower ho0 (below_size (by exact HB.out))); have n2_ := Aside0.mk (Kd.R_lower ho1 (below_size (by exact HB.out))); have n3_ := Aside0.mk (below_step (by exact HB.out) hb); clear HO322; clear HB; have HO322 := n0_; have HO329 := n1_; have HO331 := n2_; have HB := n3_; clear n0_ n1_ n2_ n3_; (try clear hb); (try clear ho0); (try clear ho1)) | (go_at_call 25; (with_reducible refine (tribunalref07_Parse.calls _ _ l0 t332 t333 t334 t335 t336 _ ?side1 ?side2 A4.out).mono ?_); (case side1 => repeat (exact (Kd.C_below HR0.out HB.out))); (case side2 => exact HC0.out); rintro e w8 ⟨v337, v339, rfl, ho0, ho1, hb⟩; have n0_ := Aside0.mk (Kd.R_below (by exact HO322.out) hb); have n1_ := Aside0.mk (Kd.S_mono (Kd.S_told (Kd.S_told (Kd.S_old (by exact HO329.out) hb) (Kd.S_base ho0)) (Kd.R_base ho1)) (fun _ h_ => h_.1)); have n2_ := Aside0.mk (Kd.R_elder' (by exact HO331.out) (Kd.R_base ho1) hb); have n3_ := Aside0.mk (Kd.S_lower (Kd.S_new' (Kd.S_new' ho0 (Kd.S_lt (by exact HO329.out))) (Kd.R_lt (by exact HO331.out))) (below_size (by exact HB.out))); have n4_ := Aside0.mk (Kd.R_lower (Kd.R_new' ho1 (Kd.R_lt (by exact HO331.out))) (below_size (by exact HB.out))); have n5_ := Aside0.mk (below_step (by exact HB.out) hb); clear HO322; clear HO329; clear HO331; clear HB; have HO322 := n0_; have HO329 := n1_; have HO331 := n2_; have HO338 := n3_; have HO340 := n4_; have HB := n5_; clear n0_ n1_ n2_ n3_ n4_ n5_; (try clear hb); (try clear ho0); (try clear ho1)))
  repeat (go_quiet (first | ((with_reducible refine gate_builtin (b := .append) (xs := #[.tmp 18, .tmp 19]) rfl ?_); at_builtin; refine Kd.R_append_rows k37 (w0 := w) w.heap.size rfl (.tmp 18) (.tmp 19) 48 37 (.agg #[(.int .i64 0), (.string ⟨#[]⟩), (.bool false), (.int .i64 0), (.int .i64 0)]) 48 rfl Tryz.underlying48 info37 rfl (by decide) (by omega) (.slice none 0 0) ([] : List (S37)) l0 _ _ _ (fun _ => True) (fun _ => False) rfl rfl ?aO ?aR (fun _ _ h => h) (fun _ h => h.elim) ?aF ?aB ?aS ?aL ?_; (case aR => repeat (fail)); (case aB => exact (by repeat (fail))); (case aF => exact (fun _ _ => trivial)); (case aO => exact ((Kd.R_nil _ _ _ _ (fun _ => True)))); (case aS => exact (below_size (by repeat (fail)))); (case aL => have := LMc2.out; omega); intro v321 w5 ho hb hg hat; rw [← Ny320.out] at ho; have n0_ := Aside0.mk (hb); have n1_ := Aside0.mk (ho); clear HB; have HB := n0_; have HO322 := n1_; clear n0_ n1_; clear ho hb hg hat; obtain ⟨Ao6, co6, eo6⟩ := Kd.R_slice HO322.out; subst eo6) | (go_at_call 24; (with_reducible refine (sexp_Parse.calls _ _ y320 t323 t324 t325 t326 t327 _ ?side1 ?side2 A3.out).mono ?_); (case side1 => repeat (fail)); (case side2 => exact (Kd.R_reads' HO322.out).2.1); rintro e w7 ⟨v328, v330, rfl, ho0, ho1, hb⟩; have n0_ := Aside0.mk (Kd.R_below (by exact HO322.out) hb); have n1_ := Aside0.mk (Kd.S_lower ho0 (below_size (by repeat (fail)))); have n2_ := Aside0.mk (Kd.R_lower ho1 (below_size (by repeat (fail)))); have n3_ := Aside0.mk (below_step (by repeat (fail)) hb); clear HO322; clear HB; have HO322 := n0_; have HO329 := n1_; have HO331 := n2_; have HB := n3_; clear n0_ n1_ n2_ n3_; ) | (go_at_call 25; (with_reducible refine (tribunalref07_Parse.calls _ _ l0 t332 t333 t334 t335 t336 _ ?side1 ?side2 A4.out).mono ?_); (case side1 => repeat (fail)); (case side2 => exact HC0.out); rintro e w8 ⟨v337, v339, rfl, ho0, ho1, hb⟩; have n0_ := Aside0.mk (Kd.R_below (by exact HO322.out) hb); have n1_ := Aside0.mk (Kd.S_mono (Kd.S_told (Kd.S_told (Kd.S_old (by exact HO329.out) hb) (Kd.S_base ho0)) (Kd.R_base ho1)) (fun _ h_ => h_.1)); have n2_ := Aside0.mk (Kd.R_elder' (by exact HO331.out) (Kd.R_base ho1) hb); have n3_ := Aside0.mk (Kd.S_lower (Kd.S_new' (Kd.S_new' ho0 (Kd.S_lt (by exact HO329.out))) (Kd.R_lt (by exact HO331.out))) (below_size (by repeat (fail)))); have n4_ := Aside0.mk (Kd.R_lower (Kd.R_new' ho1 (Kd.R_lt (by exact HO331.out))) (below_size (by repeat (fail)))); have n5_ := Aside0.mk (below_step (by repeat (fail)) hb); clear HO322; clear HO329; clear HO331; clear HB; have HO322 := n0_; have HO329 := n1_; have HO331 := n2_; have HO338 := n3_; have HO340 := n4_; have HB := n5_; clear n0_ n1_ n2_ n3_ n4_ n5_; )); skip)
  go_loopg [14] k (fun kq v14 w' => ∃ (x3_1 : List (S37)) (x14_1 : Int), v14 = .int .i64 x14_1 ∧ Aside0 (tribunallaw07_SexpOwn.l0 kq l0 x3_1 t323 t324 t327 t332 t333 t336 x14_1 = some r) ∧ Aside0 (kq ≤ k) ∧ Aside0 (Kd.R k37 37 w' w.heap.size (fun _ => True) (.slice Ao6 y320.length co6) x3_1) ∧ Aside0 (Kd.S k56 56 w' w.heap.size (fun k_ => some k_ ≠ (v330 : Value).ownBlock ∧ some k_ ≠ (v337 : Value).ownBlock ∧ some k_ ≠ (v339 : Value).ownBlock) v328 t323) ∧ Aside0 (Kd.R (Kd.int .i64) 3 w' w.heap.size (fun k_ => some k_ ≠ (v339 : Value).ownBlock) v330 t324) ∧ Aside0 (Kd.S k56 56 w' w.heap.size (fun k_ => some k_ ≠ (v328 : Value).ownBlock ∧ some k_ ≠ (v330 : Value).ownBlock ∧ some k_ ≠ (v339 : Value).ownBlock) v337 t332) ∧ Aside0 (Kd.R (Kd.int .i64) 3 w' w.heap.size (fun k_ => some k_ ≠ (v330 : Value).ownBlock) v339 t333) ∧ Aside0 (Below w.heap.size w w'))
  case atStart => exact ⟨(y320), (0), (by rfl), H', ⟨Nat.le_refl _⟩, ⟨by exact HO322.out⟩, ⟨by exact Kd.S_mono HO329.out (fun _ hk => ⟨hk.1.1, ⟨hk.1.2, hk.2⟩⟩)⟩, ⟨by exact Kd.R_mono HO331.out (fun _ hk => hk.2)⟩, ⟨by exact Kd.S_mono HO338.out (fun _ hk => ⟨hk.1.2, ⟨hk.2, hk.1.1⟩⟩)⟩, ⟨by exact Kd.R_mono HO340.out (fun _ hk => hk.2)⟩, ⟨by exact HB.out⟩⟩
  case round =>
   clear H'
   obtain ⟨x3_1, x14_1, rfl, HA, HK1, HO_3, HO_4, HO_5, HO_9, HO_10, HB⟩ := hrel
   have hl3_1 := (Kd.R_reads' HO_3.out).1
   rw [hl3_1] at HO_3
   (try simp only [hl3_1])
   skip
   skip
   skip
   skip
   cases gk with
   | zero => exact absurd HA.out (by simp [tribunallaw07_SexpOwn.l0])
   | succ k1 =>
    have H := HA.out
    clear HA
    simp only [tribunallaw07_SexpOwn.l0] at H
    by_cases c9 : x14_1 < (x3_1.length : Int)
    ·rw [if_pos c9] at H
     have c9b0 : decide (x14_1 < (x3_1.length : Int)) = true := decide_eq_true c9
     clear c9
     by_cases c10 : 0 ≤ x14_1
     ·rw [if_pos c10] at H
      have c10b0 : decide (0 ≤ x14_1) = true := decide_eq_true c10
      clear c10
      by_cases c11 : x14_1 < (l0.length : Int)
      ·rw [if_pos c11] at H
       have c11b0 : decide (x14_1 < (l0.length : Int)) = true := decide_eq_true c11
       clear c11
       by_cases c12 : (!(((rd_T37 x3_1 x14_1).f0) == ((rd_T37 l0 x14_1).f0)) || (!((((rd_T37 x3_1 x14_1).f1).toList) == (((rd_T37 l0 x14_1).f1).toList)) || (!(((rd_T37 x3_1 x14_1).f2) == ((rd_T37 l0 x14_1).f2)) || (!(((rd_T37 x3_1 x14_1).f3) == ((rd_T37 l0 x14_1).f3)) || (!(((rd_T37 x3_1 x14_1).f4) == ((rd_T37 l0 x14_1).f4))))))) = true
       ·rw [if_pos c12] at H
        have c12b0 : (!(((rd_T37 x3_1 x14_1).f0) == ((rd_T37 l0 x14_1).f0)) || (!((((rd_T37 x3_1 x14_1).f1).toList) == (((rd_T37 l0 x14_1).f1).toList)) || (!(((rd_T37 x3_1 x14_1).f2) == ((rd_T37 l0 x14_1).f2)) || (!(((rd_T37 x3_1 x14_1).f3) == ((rd_T37 l0 x14_1).f3)) || (!(((rd_T37 x3_1 x14_1).f4) == ((rd_T37 l0 x14_1).f4))))))) = true := c12
        clear c12
        obtain rfl := Option.some.inj H
        have p341 : 0 ≤ (x14_1 : Int) := of_decide_eq_true (by assumption)
        have q341 : x14_1 < (x3_1.length : Int) := of_decide_eq_true (by assumption)
        obtain ⟨ad341, e341, hx341_0, hx341_1, hx341_2, hx341_3, hx341_4⟩ := at_T37 (Kd.R_reads' HO_3.out).2.2 x14_1 p341 q341
        cases e341
        replace p341 := eq_true p341
        replace q341 := eq_true q341
        have p342 : 0 ≤ (x14_1 : Int) := of_decide_eq_true (by assumption)
        have q342 : x14_1 < (l0.length : Int) := of_decide_eq_true (by assumption)
        obtain ⟨ad342, e342, hx342_0, hx342_1, hx342_2, hx342_3, hx342_4⟩ := at_T37 HR0.out x14_1 p342 q342
        cases e342
        replace hx342_0 := (HB.out.cell (World.block_lt_of_cell? w _ hx342_0)).trans hx342_0
        replace hx342_1 := (HB.out.cell (World.block_lt_of_cell? w _ hx342_1)).trans hx342_1
        replace hx342_2 := (HB.out.cell (World.block_lt_of_cell? w _ hx342_2)).trans hx342_2
        replace hx342_3 := (HB.out.cell (World.block_lt_of_cell? w _ hx342_3)).trans hx342_3
        replace hx342_4 := (HB.out.cell (World.block_lt_of_cell? w _ hx342_4)).trans hx342_4
        replace p342 := eq_true p342
        replace q342 := eq_true q342
        go_wp2
        repeat (go_quiet (fail); try go_wp2)
        go_ret
        exact ⟨by rfl, by repeat ((with_reducible first | exact HB.out | apply pw_below_drewN))⟩
       ·rw [if_neg c12] at H
        have c12b0 : (!(((rd_T37 x3_1 x14_1).f0) == ((rd_T37 l0 x14_1).f0)) || (!((((rd_T37 x3_1 x14_1).f1).toList) == (((rd_T37 l0 x14_1).f1).toList)) || (!(((rd_T37 x3_1 x14_1).f2) == ((rd_T37 l0 x14_1).f2)) || (!(((rd_T37 x3_1 x14_1).f3) == ((rd_T37 l0 x14_1).f3)) || (!(((rd_T37 x3_1 x14_1).f4) == ((rd_T37 l0 x14_1).f4))))))) = false := by simpa using c12
        clear c12
        obtain ⟨y343, hy343⟩ : ∃ y_ : List (S37), y_ = (x3_1.set (x14_1 : Int).toNat (⟨0, (⟨#[116, 117, 114, 110, 101, 100]⟩ : ByteArray), false, 0, 0⟩ : S37)) := ⟨_, rfl⟩
        replace H : (tribunallaw07_SexpOwn.l0 k1 l0 y343 t323 t324 t327 t332 t333 t336 (wrap64 (x14_1 + 1))) = some r := by ((rw [hy343]; with_reducible exact H))
        have Ny343 := Aside0.mk hy343
        clear hy343
        have H' := Aside0.mk H
        clear H
        have p341 : 0 ≤ (x14_1 : Int) := of_decide_eq_true (by assumption)
        have q341 : x14_1 < (x3_1.length : Int) := of_decide_eq_true (by assumption)
        obtain ⟨ad341, e341, hx341_0, hx341_1, hx341_2, hx341_3, hx341_4⟩ := at_T37 (Kd.R_reads' HO_3.out).2.2 x14_1 p341 q341
        cases e341
        replace p341 := eq_true p341
        replace q341 := eq_true q341
        have p342 : 0 ≤ (x14_1 : Int) := of_decide_eq_true (by assumption)
        have q342 : x14_1 < (l0.length : Int) := of_decide_eq_true (by assumption)
        obtain ⟨ad342, e342, hx342_0, hx342_1, hx342_2, hx342_3, hx342_4⟩ := at_T37 HR0.out x14_1 p342 q342
        cases e342
        replace hx342_0 := (HB.out.cell (World.block_lt_of_cell? w _ hx342_0)).trans hx342_0
        replace hx342_1 := (HB.out.cell (World.block_lt_of_cell? w _ hx342_1)).trans hx342_1
        replace hx342_2 := (HB.out.cell (World.block_lt_of_cell? w _ hx342_2)).trans hx342_2
        replace hx342_3 := (HB.out.cell (World.block_lt_of_cell? w _ hx342_3)).trans hx342_3
        replace hx342_4 := (HB.out.cell (World.block_lt_of_cell? w _ hx342_4)).trans hx342_4
        replace p342 := eq_true p342
        replace q342 := eq_true q342
        have p13 : 0 ≤ (x14_1 : Int) := of_decide_eq_true (by assumption)
        have q13 : (x14_1 : Int) < ((x3_1.length : Int) : Int) := of_decide_eq_true (by assumption)
        obtain ⟨go13, co13, eo13, gb13, gl13, cl13, HG13⟩ := Kd.R_form HO_3.out (by omega)
        (cases eo13)
        have GB13 := Aside0.mk gb13
        have GG13 := Aside0.mk HG13
        clear gb13 gl13 HG13
        (simp only [add_plain] at hx341_0)
        (simp only [add_plain] at hx341_1)
        (simp only [add_plain] at hx341_2)
        (simp only [add_plain] at hx341_3)
        (simp only [add_plain] at hx341_4)
        obtain ⟨ce13, hcl13, hM13, hcc13, hfr13⟩ := Kd.R_elem HO_3.out z37 (x14_1 : Int) p13 q13
        obtain rfl := k37_openM hM13
        have hx13_0 : wr.cell? ⟨go13, (x14_1 : Int).toNat * 5, none⟩ = some (.int .i64 ((rd_T37 x3_1 x14_1).f0)) := hcc13 0 _ rfl
        have hx13_1 : wr.cell? ⟨go13, (x14_1 : Int).toNat * 5 + 1, none⟩ = some (.string ((rd_T37 x3_1 x14_1).f1)) := hcc13 1 _ rfl
        have hx13_2 : wr.cell? ⟨go13, (x14_1 : Int).toNat * 5 + 2, none⟩ = some (.bool ((rd_T37 x3_1 x14_1).f2)) := hcc13 2 _ rfl
        have hx13_3 : wr.cell? ⟨go13, (x14_1 : Int).toNat * 5 + 3, none⟩ = some (.int .i64 ((rd_T37 x3_1 x14_1).f3)) := hcc13 3 _ rfl
        have hx13_4 : wr.cell? ⟨go13, (x14_1 : Int).toNat * 5 + 4, none⟩ = some (.int .i64 ((rd_T37 x3_1 x14_1).f4)) := hcc13 4 _ rfl
        have hf13_0 : wr.frozen? ⟨go13, (x14_1 : Int).toNat * 5, none⟩ = false := hfr13 0
        have hf13_1 : wr.frozen? ⟨go13, (x14_1 : Int).toNat * 5 + 1, none⟩ = false := hfr13 1
        have hf13_2 : wr.frozen? ⟨go13, (x14_1 : Int).toNat * 5 + 2, none⟩ = false := hfr13 2
        have hf13_3 : wr.frozen? ⟨go13, (x14_1 : Int).toNat * 5 + 3, none⟩ = false := hfr13 3
        have hf13_4 : wr.frozen? ⟨go13, (x14_1 : Int).toNat * 5 + 4, none⟩ = false := hfr13 4
        clear hcl13 hcc13 hfr13 hM13
        replace p13 := eq_true p13
        replace q13 := eq_true q13
        have HX14 := Aside0.mk (show Kd.R k37 37 wr w.heap.size (fun _ => True) (.slice (some ⟨go13, 0, none⟩) x3_1.length co6) x3_1 from (by exact HO_3.out))
        obtain ⟨ce14, hcl14, hM14, hcc14, hfr14⟩ := Kd.R_elem HX14.out z37 (x14_1 : Int) (of_decide_eq_true (by assumption)) (by have h_ : (x14_1 : Int) < ((x3_1.length : Int) : Int) := of_decide_eq_true (by assumption); exact h_)
        obtain rfl := k37_openM hM14
        have HP14 := Kd.R_seg HX14.out (x14_1 : Int) (of_decide_eq_true (by assumption)) (by have h_ : (x14_1 : Int) < ((x3_1.length : Int) : Int) := of_decide_eq_true (by assumption); exact h_) (seg := [.int .i64 0, .string (⟨#[116, 117, 114, 110, 101, 100]⟩ : ByteArray), .bool false, .int .i64 0, .int .i64 0]) (j := 0) hcl14 hcc14 (show 5 ≤ 5 from by decide) (x' := (⟨0, (⟨#[116, 117, 114, 110, 101, 100]⟩ : ByteArray), false, 0, 0⟩ : S37)) (k37_mkM _ _ _ (⟨0, (⟨#[116, 117, 114, 110, 101, 100]⟩ : ByteArray), false, 0, 0⟩ : S37) ) (fun _ hk => hk)
        have hx14_0 := hcc14 0 _ rfl
        (try simp only [show (k37).sz = 5 from rfl, Nat.mul_one, Nat.add_zero] at hx14_0)
        have hf14_0 := hfr14 0
        (try simp only [show (k37).sz = 5 from rfl, Nat.mul_one, Nat.add_zero] at hf14_0)
        have hx14_1 := hcc14 1 _ rfl
        (try simp only [show (k37).sz = 5 from rfl, Nat.mul_one, Nat.add_zero] at hx14_1)
        have hf14_1 := hfr14 1
        (try simp only [show (k37).sz = 5 from rfl, Nat.mul_one, Nat.add_zero] at hf14_1)
        have hx14_2 := hcc14 2 _ rfl
        (try simp only [show (k37).sz = 5 from rfl, Nat.mul_one, Nat.add_zero] at hx14_2)
        have hf14_2 := hfr14 2
        (try simp only [show (k37).sz = 5 from rfl, Nat.mul_one, Nat.add_zero] at hf14_2)
        have hx14_3 := hcc14 3 _ rfl
        (try simp only [show (k37).sz = 5 from rfl, Nat.mul_one, Nat.add_zero] at hx14_3)
        have hf14_3 := hfr14 3
        (try simp only [show (k37).sz = 5 from rfl, Nat.mul_one, Nat.add_zero] at hf14_3)
        have hx14_4 := hcc14 4 _ rfl
        (try simp only [show (k37).sz = 5 from rfl, Nat.mul_one, Nat.add_zero] at hx14_4)
        have hf14_4 := hfr14 4
        (try simp only [show (k37).sz = 5 from rfl, Nat.mul_one, Nat.add_zero] at hf14_4)
        clear hcl14 hcc14 hfr14 hM14
        go_wp2_with ((((with_reducible refine gate_store (t := 37) (p := 55) rfl ?_); refine store_event (t := 37) (p := 55) (v := ?vo_w15) (w1 := (((((wr.setCell ⟨go13, (x14_1 : Int).toNat * 5, none⟩ (.int .i64 0)).setCell ⟨go13, (x14_1 : Int).toNat * 5 + 1, none⟩ (.string (⟨#[116, 117, 114, 110, 101, 100]⟩ : ByteArray))).setCell ⟨go13, (x14_1 : Int).toNat * 5 + 2, none⟩ (.bool false)).setCell ⟨go13, (x14_1 : Int).toNat * 5 + 3, none⟩ (.int .i64 0)).setCell ⟨go13, (x14_1 : Int).toNat * 5 + 4, none⟩ (.int .i64 0))) ?hg ?ho ?hn ?hr ?_; (case ho => rfl); (case hg => rfl); (case hn => rfl); (case hr => first | (go_simp; done) | (go_simp; rfl)); intro w15 hw; have hg : wr.grownBy w15 (some go13) := (by rw [hw]; exact HP14.2); have hp_ : Kd.R k37 37 w15 w.heap.size (fun _ => True) (.slice (some ⟨go13, 0, none⟩) x3_1.length co6) y343 := (by rw [hw, Ny343.out]; exact HP14.1); clear HP14; have n0_ := Aside0.mk (hp_); have n1_ := Aside0.mk (Kd.S_over' (v := (.slice (some ⟨go13, 0, none⟩) x3_1.length co6)) (by exact HO_4.out) (Kd.R_typed HO_3.out) (by decide) hg); have n2_ := Aside0.mk (Kd.R_over' (v := (.slice (some ⟨go13, 0, none⟩) x3_1.length co6)) (by exact HO_5.out) (Kd.R_typed HO_3.out) (by decide) hg); have n3_ := Aside0.mk (Kd.S_over' (v := (.slice (some ⟨go13, 0, none⟩) x3_1.length co6)) (by exact HO_9.out) (Kd.R_typed HO_3.out) (by decide) hg); have n4_ := Aside0.mk (Kd.R_over' (v := (.slice (some ⟨go13, 0, none⟩) x3_1.length co6)) (by exact HO_10.out) (Kd.R_typed HO_3.out) (by decide) hg); have n5_ := Aside0.mk ((by rw [hw]; exact below_set (below_set (below_set (below_set (below_set (HB.out) GB13.out) GB13.out) GB13.out) GB13.out) GB13.out : Below w.heap.size w w15)); clear HO_3; clear HO_4; clear HO_5; clear HO_9; clear HO_10; clear HB; have HO_3 := n0_; have HO_4 := n1_; have HO_5 := n2_; have HO_9 := n3_; have HO_10 := n4_; have HB := n5_; clear n0_ n1_ n2_ n3_ n4_ n5_; clear hg hw hp_)))
        repeat (go_quiet ((((with_reducible refine gate_store (t := 37) (p := 55) rfl ?_); refine store_event (t := 37) (p := 55) (v := ?vo_w15) (w1 := (((((wr.setCell ⟨go13, (x14_1 : Int).toNat * 5, none⟩ (.int .i64 0)).setCell ⟨go13, (x14_1 : Int).toNat * 5 + 1, none⟩ (.string (⟨#[116, 117, 114, 110, 101, 100]⟩ : ByteArray))).setCell ⟨go13, (x14_1 : Int).toNat * 5 + 2, none⟩ (.bool false)).setCell ⟨go13, (x14_1 : Int).toNat * 5 + 3, none⟩ (.int .i64 0)).setCell ⟨go13, (x14_1 : Int).toNat * 5 + 4, none⟩ (.int .i64 0))) ?hg ?ho ?hn ?hr ?_; (case ho => rfl); (case hg => rfl); (case hn => rfl); (case hr => first | (go_simp; done) | (go_simp; rfl)); intro w15 hw; have hg : wr.grownBy w15 (some go13) := (by rw [hw]; exact HP14.2); have hp_ : Kd.R k37 37 w15 w.heap.size (fun _ => True) (.slice (some ⟨go13, 0, none⟩) x3_1.length co6) y343 := (by rw [hw, Ny343.out]; exact HP14.1); clear HP14; have n0_ := Aside0.mk (hp_); have n1_ := Aside0.mk (Kd.S_over' (v := (.slice (some ⟨go13, 0, none⟩) x3_1.length co6)) (by exact HO_4.out) (Kd.R_typed HO_3.out) (by decide) hg); have n2_ := Aside0.mk (Kd.R_over' (v := (.slice (some ⟨go13, 0, none⟩) x3_1.length co6)) (by exact HO_5.out) (Kd.R_typed HO_3.out) (by decide) hg); have n3_ := Aside0.mk (Kd.S_over' (v := (.slice (some ⟨go13, 0, none⟩) x3_1.length co6)) (by exact HO_9.out) (Kd.R_typed HO_3.out) (by decide) hg); have n4_ := Aside0.mk (Kd.R_over' (v := (.slice (some ⟨go13, 0, none⟩) x3_1.length co6)) (by exact HO_10.out) (Kd.R_typed HO_3.out) (by decide) hg); have n5_ := Aside0.mk ((by rw [hw]; exact below_set (below_set (below_set (below_set (below_set (HB.out) GB13.out) GB13.out) GB13.out) GB13.out) GB13.out : Below w.heap.size w w15)); clear HO_3; clear HO_4; clear HO_5; clear HO_9; clear HO_10; clear HB; have HO_3 := n0_; have HO_4 := n1_; have HO_5 := n2_; have HO_9 := n3_; have HO_10 := n4_; have HB := n5_; clear n0_ n1_ n2_ n3_ n4_ n5_; clear hg hw hp_))); try go_wp2_with ((((with_reducible refine gate_store (t := 37) (p := 55) rfl ?_); (try (rw [drewN_self wr]; generalize hq_ : World.drewN wr _ = wr; have n0_ := Aside0.mk (Kd.R_at hq_ HO_3.out); have n1_ := Aside0.mk (Kd.S_at hq_ HO_4.out); have n2_ := Aside0.mk (Kd.R_at hq_ HO_5.out); have n3_ := Aside0.mk (Kd.S_at hq_ HO_9.out); have n4_ := Aside0.mk (Kd.R_at hq_ HO_10.out); have n5_ := Aside0.mk (below_at hq_ HB.out); clear hq_ HO_3 HO_4 HO_5 HO_9 HO_10 HB; have HO_3 := n0_; have HO_4 := n1_; have HO_5 := n2_; have HO_9 := n3_; have HO_10 := n4_; have HB := n5_; clear n0_ n1_ n2_ n3_ n4_ n5_; (try (have HX14 := Aside0.mk (show Kd.R k37 37 wr w.heap.size (fun _ => True) (.slice (some ⟨go13, 0, none⟩) x3_1.length co6) x3_1 from (by exact HO_3.out)))); (try (obtain ⟨ce14, hcl14, hM14, hcc14, hfr14⟩ := Kd.R_elem HX14.out z37 (x14_1 : Int) (of_decide_eq_true (by assumption)) (by have h_ : (x14_1 : Int) < ((x3_1.length : Int) : Int) := of_decide_eq_true (by assumption); exact h_))); (try (obtain rfl := k37_openM hM14)); (try (have HP14 := Kd.R_seg HX14.out (x14_1 : Int) (of_decide_eq_true (by assumption)) (by have h_ : (x14_1 : Int) < ((x3_1.length : Int) : Int) := of_decide_eq_true (by assumption); exact h_) (seg := [.int .i64 0, .string (⟨#[116, 117, 114, 110, 101, 100]⟩ : ByteArray), .bool false, .int .i64 0, .int .i64 0]) (j := 0) hcl14 hcc14 (show 5 ≤ 5 from by decide) (x' := (⟨0, (⟨#[116, 117, 114, 110, 101, 100]⟩ : ByteArray), false, 0, 0⟩ : S37)) (k37_mkM _ _ _ (⟨0, (⟨#[116, 117, 114, 110, 101, 100]⟩ : ByteArray), false, 0, 0⟩ : S37) ) (fun _ hk => hk))); (try (have hx14_0 := hcc14 0 _ rfl)); (try (try simp only [show (k37).sz = 5 from rfl, Nat.mul_one, Nat.add_zero] at hx14_0)); (try (have hf14_0 := hfr14 0)); (try (try simp only [show (k37).sz = 5 from rfl, Nat.mul_one, Nat.add_zero] at hf14_0)); (try (have hx14_1 := hcc14 1 _ rfl)); (try (try simp only [show (k37).sz = 5 from rfl, Nat.mul_one, Nat.add_zero] at hx14_1)); (try (have hf14_1 := hfr14 1)); (try (try simp only [show (k37).sz = 5 from rfl, Nat.mul_one, Nat.add_zero] at hf14_1)); (try (have hx14_2 := hcc14 2 _ rfl)); (try (try simp only [show (k37).sz = 5 from rfl, Nat.mul_one, Nat.add_zero] at hx14_2)); (try (have hf14_2 := hfr14 2)); (try (try simp only [show (k37).sz = 5 from rfl, Nat.mul_one, Nat.add_zero] at hf14_2)); (try (have hx14_3 := hcc14 3 _ rfl)); (try (try simp only [show (k37).sz = 5 from rfl, Nat.mul_one, Nat.add_zero] at hx14_3)); (try (have hf14_3 := hfr14 3)); (try (try simp only [show (k37).sz = 5 from rfl, Nat.mul_one, Nat.add_zero] at hf14_3)); (try (have hx14_4 := hcc14 4 _ rfl)); (try (try simp only [show (k37).sz = 5 from rfl, Nat.mul_one, Nat.add_zero] at hx14_4)); (try (have hf14_4 := hfr14 4)); (try (try simp only [show (k37).sz = 5 from rfl, Nat.mul_one, Nat.add_zero] at hf14_4)); (try (clear hcl14 hcc14 hfr14 hM14)))); refine store_event (t := 37) (p := 55) (v := ?vo_w15) (w1 := (((((wr.setCell ⟨go13, (x14_1 : Int).toNat * 5, none⟩ (.int .i64 0)).setCell ⟨go13, (x14_1 : Int).toNat * 5 + 1, none⟩ (.string (⟨#[116, 117, 114, 110, 101, 100]⟩ : ByteArray))).setCell ⟨go13, (x14_1 : Int).toNat * 5 + 2, none⟩ (.bool false)).setCell ⟨go13, (x14_1 : Int).toNat * 5 + 3, none⟩ (.int .i64 0)).setCell ⟨go13, (x14_1 : Int).toNat * 5 + 4, none⟩ (.int .i64 0))) ?hg ?ho ?hn ?hr ?_; (case ho => rfl); (case hg => rfl); (case hn => rfl); (case hr => ((go_simp; done))); intro w15 hw; have hg : wr.grownBy w15 (some go13) := (by rw [hw]; exact HP14.2); have hp_ : Kd.R k37 37 w15 w.heap.size (fun _ => True) (.slice (some ⟨go13, 0, none⟩) x3_1.length co6) y343 := (by rw [hw, Ny343.out]; exact HP14.1); clear HP14; have n0_ := Aside0.mk (hp_); have n1_ := Aside0.mk (Kd.S_over' (v := (.slice (some ⟨go13, 0, none⟩) x3_1.length co6)) (by exact HO_4.out) (Kd.R_typed HO_3.out) (by decide) hg); have n2_ := Aside0.mk (Kd.R_over' (v := (.slice (some ⟨go13, 0, none⟩) x3_1.length co6)) (by exact HO_5.out) (Kd.R_typed HO_3.out) (by decide) hg); have n3_ := Aside0.mk (Kd.S_over' (v := (.slice (some ⟨go13, 0, none⟩) x3_1.length co6)) (by exact HO_9.out) (Kd.R_typed HO_3.out) (by decide) hg); have n4_ := Aside0.mk (Kd.R_over' (v := (.slice (some ⟨go13, 0, none⟩) x3_1.length co6)) (by exact HO_10.out) (Kd.R_typed HO_3.out) (by decide) hg); have n5_ := Aside0.mk ((by rw [hw]; exact below_set (below_set (below_set (below_set (below_set (HB.out) GB13.out) GB13.out) GB13.out) GB13.out) GB13.out : Below w.heap.size w w15)); clear HO_3; clear HO_4; clear HO_5; clear HO_9; clear HO_10; clear HB; have HO_3 := n0_; have HO_4 := n1_; have HO_5 := n2_; have HO_9 := n3_; have HO_10 := n4_; have HB := n5_; clear n0_ n1_ n2_ n3_ n4_ n5_; clear hg hw hp_))))
        (try simp only [← hl3_1])
        go_roundg k1
        case measure => have := HK1.out; omega
        case rel => exact ⟨(y343), (wrap64 (x14_1 + 1)), (by rfl), H', ⟨by have := HK1.out; omega⟩, ⟨by (try simp only [hl3_1]); exact HO_3.out⟩, ⟨by exact HO_4.out⟩, ⟨by exact HO_5.out⟩, ⟨by exact HO_9.out⟩, ⟨by exact HO_10.out⟩, ⟨by exact HB.out⟩⟩
      ·rw [if_neg c11] at H
       exact absurd H (by simp)
     ·rw [if_neg c10] at H
      exact absurd H (by simp)
    ·rw [if_neg c9] at H
     have c9b0 : decide (x14_1 < (x3_1.length : Int)) = false := decide_eq_false c9
     clear c9
     have HC16 := Aside0.mk H
     clear H
     go_upto_region 11 with (fail)
     repeat (go_quiet (fail); go_upto_region 11 with (fail))
     go_cut [70] (fun v70 wc => ∃ (kq : Nat) (x70_15 : Bool), v70 = .bool x70_15 ∧ Aside0 (tribunallaw07_SexpOwn.j1 kq t323 t332 x70_15 = some r) ∧ Aside0 (kq ≤ k1) ∧ Aside0 (Kd.S k56 56 wc w.heap.size (fun k_ => some k_ ≠ (v337 : Value).ownBlock) v328 t323) ∧ Aside0 (Kd.S k56 56 wc w.heap.size (fun k_ => some k_ ≠ (v328 : Value).ownBlock) v337 t332) ∧ Aside0 (Below w.heap.size w wc))
     case first =>
      have H := HC16.out
      clear HC16
      by_cases c17 : t327 = t336
      ·rw [if_pos c17] at H
       have c17b0 : (t327 == t336) = true := beq_iff_eq.mpr c17
       have c17b1 : (t327 != t336) = false := bne_eq_false_iff_eq.mpr c17
       clear c17
       (skip)
       replace H := Option.bind_eq_some_iff.mp H
       obtain ⟨t344, A180, H⟩ := H
       replace H : (if t344 = true then ((tribunalref07_SameInts.f t324 t333).bind fun t345 => (tribunallaw07_SexpOwn.j1 k1 t323 t332 (!t345))) else (tribunallaw07_SexpOwn.j1 k1 t323 t332 true)) = some r := H
       have A18 := Aside0.mk A180
       clear A180
       by_cases c19 : t344 = true
       ·subst c19
        have H1 : ((tribunalref07_SameInts.f t324 t333).bind fun t345 => (tribunallaw07_SexpOwn.j1 k1 t323 t332 (!t345))) = some r := by rw [if_pos rfl] at H; exact H
        clear H
        have H := H1
        clear H1
        replace H := Option.bind_eq_some_iff.mp H
        obtain ⟨t345, A200, H⟩ := H
        replace H : (tribunallaw07_SexpOwn.j1 k1 t323 t332 (!t345)) = some r := H
        have A20 := Aside0.mk A200
        clear A200
        have H' := Aside0.mk H
        clear H
        obtain ⟨Ao21, co21, eo21⟩ := Kd.S_slice HO_4.out
        subst eo21
        obtain ⟨Ao22, co22, eo22⟩ := Kd.S_slice HO_9.out
        subst eo22
        go_wp2_with (first | (go_at_call 26; (with_reducible refine (tribunalref07_Same.calls _ _ t323 _ _ t332 true _ ?side1 ?side2 ?side3 ?side4 A18.out).mono ?_); (case side1 => repeat (exact (Kd.S_reads' HO_4.out).2.2)); (case side2 => exact (Kd.S_reads' HO_4.out).2.1); (case side3 => repeat (exact (Kd.S_reads' HO_9.out).2.2)); (case side4 => exact (Kd.S_reads' HO_9.out).2.1); rintro e w23 ⟨rfl, hb⟩; have n0_ := Aside0.mk (Kd.R_below (by exact HO_3.out) hb); have n1_ := Aside0.mk (Kd.S_below (by exact HO_4.out) hb); have n2_ := Aside0.mk (Kd.R_below (by exact HO_5.out) hb); have n3_ := Aside0.mk (Kd.S_below (by exact HO_9.out) hb); have n4_ := Aside0.mk (Kd.R_below (by exact HO_10.out) hb); have n5_ := Aside0.mk (below_step (by exact HB.out) hb); clear HO_3; clear HO_4; clear HO_5; clear HO_9; clear HO_10; clear HB; have HO_3 := n0_; have HO_4 := n1_; have HO_5 := n2_; have HO_9 := n3_; have HO_10 := n4_; have HB := n5_; clear n0_ n1_ n2_ n3_ n4_ n5_; (try clear hb); obtain ⟨Ao24, co24, eo24⟩ := Kd.R_slice HO_5.out; subst eo24; obtain ⟨Ao25, co25, eo25⟩ := Kd.R_slice HO_10.out; subst eo25) | (go_at_call 11; (with_reducible refine (tribunalref07_SameInts.calls _ _ t324 _ _ t333 t345 _ ?side1 ?side2 ?side3 ?side4 A20.out).mono ?_); (case side1 => repeat (exact (Kd.R_reads' HO_5.out).2.2)); (case side2 => exact (Kd.R_reads' HO_5.out).2.1); (case side3 => repeat (exact (Kd.R_reads' HO_10.out).2.2)); (case side4 => exact (Kd.R_reads' HO_10.out).2.1); rintro e w26 ⟨rfl, hb⟩; have n0_ := Aside0.mk (Kd.R_below (by exact HO_3.out) hb); have n1_ := Aside0.mk (Kd.S_below (by exact HO_4.out) hb); have n2_ := Aside0.mk (Kd.R_below (by exact HO_5.out) hb); have n3_ := Aside0.mk (Kd.S_below (by exact HO_9.out) hb); have n4_ := Aside0.mk (Kd.R_below (by exact HO_10.out) hb); have n5_ := Aside0.mk (below_step (by exact HB.out) hb); clear HO_3; clear HO_4; clear HO_5; clear HO_9; clear HO_10; clear HB; have HO_3 := n0_; have HO_4 := n1_; have HO_5 := n2_; have HO_9 := n3_; have HO_10 := n4_; have HB := n5_; clear n0_ n1_ n2_ n3_ n4_ n5_; (try clear hb); ))
        repeat (go_quiet (first | (go_at_call 26; (with_reducible refine (tribunalref07_Same.calls _ _ t323 _ _ t332 true _ ?side1 ?side2 ?side3 ?side4 A18.out).mono ?_); (case side1 => repeat (fail)); (case side2 => exact (Kd.S_reads' HO_4.out).2.1); (case side3 => repeat (fail)); (case side4 => exact (Kd.S_reads' HO_9.out).2.1); rintro e w23 ⟨rfl, hb⟩; have n0_ := Aside0.mk (Kd.R_below (by exact HO_3.out) hb); have n1_ := Aside0.mk (Kd.S_below (by exact HO_4.out) hb); have n2_ := Aside0.mk (Kd.R_below (by exact HO_5.out) hb); have n3_ := Aside0.mk (Kd.S_below (by exact HO_9.out) hb); have n4_ := Aside0.mk (Kd.R_below (by exact HO_10.out) hb); have n5_ := Aside0.mk (below_step (by repeat (fail)) hb); clear HO_3; clear HO_4; clear HO_5; clear HO_9; clear HO_10; clear HB; have HO_3 := n0_; have HO_4 := n1_; have HO_5 := n2_; have HO_9 := n3_; have HO_10 := n4_; have HB := n5_; clear n0_ n1_ n2_ n3_ n4_ n5_; obtain ⟨Ao24, co24, eo24⟩ := Kd.R_slice HO_5.out; subst eo24; obtain ⟨Ao25, co25, eo25⟩ := Kd.R_slice HO_10.out; subst eo25) | (go_at_call 11; (with_reducible refine (tribunalref07_SameInts.calls _ _ t324 _ _ t333 t345 _ ?side1 ?side2 ?side3 ?side4 A20.out).mono ?_); (case side1 => repeat (fail)); (case side2 => exact (Kd.R_reads' HO_5.out).2.1); (case side3 => repeat (fail)); (case side4 => exact (Kd.R_reads' HO_10.out).2.1); rintro e w26 ⟨rfl, hb⟩; have n0_ := Aside0.mk (Kd.R_below (by exact HO_3.out) hb); have n1_ := Aside0.mk (Kd.S_below (by exact HO_4.out) hb); have n2_ := Aside0.mk (Kd.R_below (by exact HO_5.out) hb); have n3_ := Aside0.mk (Kd.S_below (by exact HO_9.out) hb); have n4_ := Aside0.mk (Kd.R_below (by exact HO_10.out) hb); have n5_ := Aside0.mk (below_step (by repeat (fail)) hb); clear HO_3; clear HO_4; clear HO_5; clear HO_9; clear HO_10; clear HB; have HO_3 := n0_; have HO_4 := n1_; have HO_5 := n2_; have HO_9 := n3_; have HO_10 := n4_; have HB := n5_; clear n0_ n1_ n2_ n3_ n4_ n5_; )); skip)
        go_meet
        case rel => exact ⟨_, (!t345), (by rfl), H', ⟨by have := HK1.out; omega⟩, ⟨by exact Kd.S_mono HO_4.out (fun _ hk => hk.2.1)⟩, ⟨by exact Kd.S_mono HO_9.out (fun _ hk => hk.1)⟩, ⟨by exact HB.out⟩⟩
       ·replace c19 := Bool.eq_false_iff.mpr c19
        subst c19
        have H1 : (tribunallaw07_SexpOwn.j1 k1 t323 t332 true) = some r := by rw [if_neg (show ¬ (false = true) by decide)] at H; exact H
        clear H
        have H := H1
        clear H1
        have H' := Aside0.mk H
        clear H
        obtain ⟨Ao27, co27, eo27⟩ := Kd.S_slice HO_4.out
        subst eo27
        obtain ⟨Ao28, co28, eo28⟩ := Kd.S_slice HO_9.out
        subst eo28
        go_wp2_with (((go_at_call 26; (with_reducible refine (tribunalref07_Same.calls _ _ t323 _ _ t332 false _ ?side1 ?side2 ?side3 ?side4 A18.out).mono ?_); (case side1 => repeat (exact (Kd.S_reads' HO_4.out).2.2)); (case side2 => exact (Kd.S_reads' HO_4.out).2.1); (case side3 => repeat (exact (Kd.S_reads' HO_9.out).2.2)); (case side4 => exact (Kd.S_reads' HO_9.out).2.1); rintro e w29 ⟨rfl, hb⟩; have n0_ := Aside0.mk (Kd.R_below (by exact HO_3.out) hb); have n1_ := Aside0.mk (Kd.S_below (by exact HO_4.out) hb); have n2_ := Aside0.mk (Kd.R_below (by exact HO_5.out) hb); have n3_ := Aside0.mk (Kd.S_below (by exact HO_9.out) hb); have n4_ := Aside0.mk (Kd.R_below (by exact HO_10.out) hb); have n5_ := Aside0.mk (below_step (by exact HB.out) hb); clear HO_3; clear HO_4; clear HO_5; clear HO_9; clear HO_10; clear HB; have HO_3 := n0_; have HO_4 := n1_; have HO_5 := n2_; have HO_9 := n3_; have HO_10 := n4_; have HB := n5_; clear n0_ n1_ n2_ n3_ n4_ n5_; (try clear hb); )))
        repeat (go_quiet (((go_at_call 26; (with_reducible refine (tribunalref07_Same.calls _ _ t323 _ _ t332 false _ ?side1 ?side2 ?side3 ?side4 A18.out).mono ?_); (case side1 => repeat (fail)); (case side2 => exact (Kd.S_reads' HO_4.out).2.1); (case side3 => repeat (fail)); (case side4 => exact (Kd.S_reads' HO_9.out).2.1); rintro e w29 ⟨rfl, hb⟩; have n0_ := Aside0.mk (Kd.R_below (by exact HO_3.out) hb); have n1_ := Aside0.mk (Kd.S_below (by exact HO_4.out) hb); have n2_ := Aside0.mk (Kd.R_below (by exact HO_5.out) hb); have n3_ := Aside0.mk (Kd.S_below (by exact HO_9.out) hb); have n4_ := Aside0.mk (Kd.R_below (by exact HO_10.out) hb); have n5_ := Aside0.mk (below_step (by repeat (fail)) hb); clear HO_3; clear HO_4; clear HO_5; clear HO_9; clear HO_10; clear HB; have HO_3 := n0_; have HO_4 := n1_; have HO_5 := n2_; have HO_9 := n3_; have HO_10 := n4_; have HB := n5_; clear n0_ n1_ n2_ n3_ n4_ n5_; ))); skip)
        go_meet
        case rel => exact ⟨_, (true), (by rfl), H', ⟨by have := HK1.out; omega⟩, ⟨by exact Kd.S_mono HO_4.out (fun _ hk => hk.2.1)⟩, ⟨by exact Kd.S_mono HO_9.out (fun _ hk => hk.1)⟩, ⟨by exact HB.out⟩⟩
      ·rw [if_neg c17] at H
       have c17b0 : (t327 == t336) = false := beq_eq_false_iff_ne.mpr c17
       have c17b1 : (t327 != t336) = true := bne_iff_ne.mpr c17
       (skip)
       have H' := Aside0.mk H
       clear H
       go_wp2
       repeat (go_quiet (fail); skip)
       go_meet
       case rel => exact ⟨_, (true), (by rfl), H', ⟨by have := HK1.out; omega⟩, ⟨by exact Kd.S_mono HO_4.out (fun _ hk => hk.2.1)⟩, ⟨by exact Kd.S_mono HO_9.out (fun _ hk => hk.1)⟩, ⟨by exact HB.out⟩⟩
     case rest =>
      clear HC16
      obtain ⟨kq, x70_15, rfl, HA, HJ15, HO_4, HO_9, HB⟩ := hcut
      cases kq with
      | zero => exact absurd HA.out (by simp [tribunallaw07_SexpOwn.j1])
      | succ kj15 =>
       have H := HA.out
       clear HA
       simp only [tribunallaw07_SexpOwn.j1] at H
       by_cases c30 : x70_15 = true
       ·subst c30
        have H1 : (some false) = some r := by rw [if_pos rfl] at H; exact H
        clear H
        have H := H1
        clear H1
        obtain rfl := Option.some.inj H
        go_wp2
        repeat (go_quiet (fail); skip)
        go_ret
        exact ⟨by rfl, by exact HB.out⟩
       ·replace c30 := Bool.eq_false_iff.mpr c30
        subst c30
        have H1 : (tribunallaw07_SexpOwn.l1 kj15 t323 t332 0) = some r := by rw [if_neg (show ¬ (false = true) by decide)] at H; exact H
        clear H
        have H := H1
        clear H1
        have H' := Aside0.mk H
        clear H
        go_wp2
        repeat (go_quiet (fail); skip)
        go_loopg [15] kj15 (fun kq v15 w' => ∃ (x15_3 : Int), v15 = .int .i64 x15_3 ∧ Aside0 (tribunallaw07_SexpOwn.l1 kq t323 t332 x15_3 = some r) ∧ Aside0 (kq ≤ kj15) ∧ Aside0 (Kd.S k56 56 w' w.heap.size (fun k_ => some k_ ≠ (v337 : Value).ownBlock) v328 t323) ∧ Aside0 (Kd.S k56 56 w' w.heap.size (fun k_ => some k_ ≠ (v328 : Value).ownBlock) v337 t332) ∧ Aside0 (Below w.heap.size w w'))
        case atStart => exact ⟨(0), (by rfl), H', ⟨Nat.le_refl _⟩, ⟨by exact HO_4.out⟩, ⟨by exact HO_9.out⟩, ⟨by exact HB.out⟩⟩
        case round =>
         clear H'
         obtain ⟨x15_3, rfl, HA, HK3, HO_4, HO_9, HB⟩ := hrel
         cases gk with
         | zero => exact absurd HA.out (by simp [tribunallaw07_SexpOwn.l1])
         | succ k3 =>
          have H := HA.out
          clear HA
          simp only [tribunallaw07_SexpOwn.l1] at H
          by_cases c31 : x15_3 < (t323.length : Int)
          ·rw [if_pos c31] at H
           have c31b0 : decide (x15_3 < (t323.length : Int)) = true := decide_eq_true c31
           clear c31
           replace H := Option.bind_eq_some_iff.mp H
           obtain ⟨t348, A320, H⟩ := H
           replace H : (tribunallaw07_SexpOwn.l2 k3 t323 t332 x15_3 t348 0) = some r := H
           have A32 := Aside0.mk A320
           clear A320
           have H' := Aside0.mk H
           clear H
           obtain ⟨Ao33, co33, eo33⟩ := Kd.S_slice HO_4.out
           subst eo33
           go_wp2_with (((go_at_call 12; (with_reducible refine (sexp_Kids.calls _ _ t323 x15_3 t348 _ ?side1 ?side2 A32.out).mono ?_); (case side1 => repeat (exact (Kd.S_reads' HO_4.out).2.2)); (case side2 => exact (Kd.S_reads' HO_4.out).2.1); rintro e w34 ⟨v349, rfl, ho0, hb⟩; have n0_ := Aside0.mk (Kd.S_elder' (by exact HO_4.out) (Kd.R_base ho0) hb); have n1_ := Aside0.mk (Kd.S_elder' (by exact HO_9.out) (Kd.R_base ho0) hb); have n2_ := Aside0.mk (Kd.R_lower ho0 (below_size (by exact HB.out))); have n3_ := Aside0.mk (below_step (by exact HB.out) hb); clear HO_4; clear HO_9; clear HB; have HO_4 := n0_; have HO_9 := n1_; have HO350 := n2_; have HB := n3_; clear n0_ n1_ n2_ n3_; (try clear hb); (try clear ho0))))
           repeat (go_quiet (((go_at_call 12; (with_reducible refine (sexp_Kids.calls _ _ t323 x15_3 t348 _ ?side1 ?side2 A32.out).mono ?_); (case side1 => repeat (fail)); (case side2 => exact (Kd.S_reads' HO_4.out).2.1); rintro e w34 ⟨v349, rfl, ho0, hb⟩; have n0_ := Aside0.mk (Kd.S_elder' (by exact HO_4.out) (Kd.R_base ho0) hb); have n1_ := Aside0.mk (Kd.S_elder' (by exact HO_9.out) (Kd.R_base ho0) hb); have n2_ := Aside0.mk (Kd.R_lower ho0 (below_size (by repeat (fail)))); have n3_ := Aside0.mk (below_step (by repeat (fail)) hb); clear HO_4; clear HO_9; clear HB; have HO_4 := n0_; have HO_9 := n1_; have HO350 := n2_; have HB := n3_; clear n0_ n1_ n2_ n3_; ))); skip)
           go_loopg [17] k3 (fun kq v17 w' => ∃ (x16_4 : List Int) (x17_4 : Int), v17 = .int .i64 x17_4 ∧ Aside0 (tribunallaw07_SexpOwn.l2 kq t323 t332 x15_3 x16_4 x17_4 = some r) ∧ Aside0 (kq ≤ k3) ∧ Aside0 (Kd.S k56 56 w' w.heap.size (fun k_ => some k_ ≠ (v337 : Value).ownBlock ∧ some k_ ≠ (v349 : Value).ownBlock) (.slice Ao33 t323.length co33) t323) ∧ Aside0 (Kd.S k56 56 w' w.heap.size (fun k_ => some k_ ≠ ((.slice Ao33 t323.length co33) : Value).ownBlock ∧ some k_ ≠ (v349 : Value).ownBlock) v337 t332) ∧ Aside0 (Kd.R (Kd.int .i64) 3 w' w.heap.size (fun _ => True) v349 x16_4) ∧ Aside0 (Below w.heap.size w w'))
           case atStart => exact ⟨(t348), (0), (by rfl), H', ⟨Nat.le_refl _⟩, ⟨by exact HO_4.out⟩, ⟨by exact HO_9.out⟩, ⟨by exact HO350.out⟩, ⟨by exact HB.out⟩⟩
           case round =>
            clear H'
            obtain ⟨x16_4, x17_4, rfl, HA, HK4, HO_4, HO_9, HO_16, HB⟩ := hrel
            cases gk with
            | zero => exact absurd HA.out (by simp [tribunallaw07_SexpOwn.l2])
            | succ k4 =>
             have H := HA.out
             clear HA
             simp only [tribunallaw07_SexpOwn.l2] at H
             by_cases c35 : x17_4 < (x16_4.length : Int)
             ·rw [if_pos c35] at H
              have c35b0 : decide (x17_4 < (x16_4.length : Int)) = true := decide_eq_true c35
              clear c35
              by_cases c36 : 0 ≤ x17_4
              ·rw [if_pos c36] at H
               have c36b0 : decide (0 ≤ x17_4) = true := decide_eq_true c36
               clear c36
               obtain ⟨y351, hy351⟩ : ∃ y_ : List Int, y_ = (x16_4.set (x17_4 : Int).toNat (-1)) := ⟨_, rfl⟩
               replace H : (tribunallaw07_SexpOwn.l2 k4 t323 t332 x15_3 y351 (wrap64 (x17_4 + 1))) = some r := by ((rw [hy351]; with_reducible exact H))
               have Ny351 := Aside0.mk hy351
               clear hy351
               have H' := Aside0.mk H
               clear H
               obtain ⟨Ao38, co38, eo38⟩ := Kd.R_slice HO_16.out
               subst eo38
               have p37 : 0 ≤ (x17_4 : Int) := of_decide_eq_true (by assumption)
               have q37 : (x17_4 : Int) < ((x16_4.length : Int) : Int) := of_decide_eq_true (by assumption)
               obtain ⟨go37, co37, eo37, gb37, gl37, cl37, HG37⟩ := Kd.R_form HO_16.out (by omega)
               (cases eo37)
               have GB37 := Aside0.mk gb37
               have GG37 := Aside0.mk HG37
               clear gb37 gl37 HG37
               obtain ⟨hx37_0, hf37_0⟩ := Kd.R_celln 0 HO_16.out (x17_4 : Int) p37 q37
               replace p37 := eq_true p37
               replace q37 := eq_true q37
               have HP39 := Kd.R_putg HO_16.out (x17_4 : Int) (-1)
               go_wp2_with ((((with_reducible refine gate_store (t := 3) (p := 88) rfl ?_); refine store_event (t := 3) (p := 88) (v := ?vo_w40) (w1 := (wr.setCell ⟨go37, (x17_4 : Int).toNat, none⟩ (.int .i64 (-1)))) ?hg ?ho ?hn ?hr ?_; (case ho => rfl); (case hg => rfl); (case hn => rfl); (case hr => ((go_simp; done))); intro w40 hw; have hg : wr.grownBy w40 (some go37) := (by rw [hw]; exact HP39.2); have hp_ : Kd.R (Kd.int .i64) 3 w40 w.heap.size (fun _ => True) (.slice (some ⟨go37, 0, none⟩) x16_4.length co38) y351 := (by rw [hw, Ny351.out]; exact HP39.1); clear HP39; have n0_ := Aside0.mk (Kd.S_after (v := (.slice (some ⟨go37, 0, none⟩) x16_4.length co38)) (v1 := (.slice (some ⟨go37, 0, none⟩) x16_4.length co38)) (ok := (fun k_ => some k_ ≠ (v337 : Value).ownBlock)) (by exact HO_4.out) hg (.inl rfl)); have n1_ := Aside0.mk (Kd.S_after (v := (.slice (some ⟨go37, 0, none⟩) x16_4.length co38)) (v1 := (.slice (some ⟨go37, 0, none⟩) x16_4.length co38)) (ok := (fun k_ => some k_ ≠ (.slice Ao33 t323.length co33 : Value).ownBlock)) (by exact HO_9.out) hg (.inl rfl)); have n2_ := Aside0.mk (hp_); have n3_ := Aside0.mk ((by rw [hw]; exact below_set (HB.out) GB37.out : Below w.heap.size w w40)); clear HO_4; clear HO_9; clear HO_16; clear HB; have HO_4 := n0_; have HO_9 := n1_; have HO_16 := n2_; have HB := n3_; clear n0_ n1_ n2_ n3_; clear hg hw hp_)))
               repeat (go_quiet ((((with_reducible refine gate_store (t := 3) (p := 88) rfl ?_); refine store_event (t := 3) (p := 88) (v := ?vo_w40) (w1 := (wr.setCell ⟨go37, (x17_4 : Int).toNat, none⟩ (.int .i64 (-1)))) ?hg ?ho ?hn ?hr ?_; (case ho => rfl); (case hg => rfl); (case hn => rfl); (case hr => first | (go_simp; done) | (go_simp; rfl)); intro w40 hw; have hg : wr.grownBy w40 (some go37) := (by rw [hw]; exact HP39.2); have hp_ : Kd.R (Kd.int .i64) 3 w40 w.heap.size (fun _ => True) (.slice (some ⟨go37, 0, none⟩) x16_4.length co38) y351 := (by rw [hw, Ny351.out]; exact HP39.1); clear HP39; have n0_ := Aside0.mk (Kd.S_after (v := (.slice (some ⟨go37, 0, none⟩) x16_4.length co38)) (v1 := (.slice (some ⟨go37, 0, none⟩) x16_4.length co38)) (ok := (fun k_ => some k_ ≠ (v337 : Value).ownBlock)) (by exact HO_4.out) hg (.inl rfl)); have n1_ := Aside0.mk (Kd.S_after (v := (.slice (some ⟨go37, 0, none⟩) x16_4.length co38)) (v1 := (.slice (some ⟨go37, 0, none⟩) x16_4.length co38)) (ok := (fun k_ => some k_ ≠ (.slice Ao33 t323.length co33 : Value).ownBlock)) (by exact HO_9.out) hg (.inl rfl)); have n2_ := Aside0.mk (hp_); have n3_ := Aside0.mk ((by rw [hw]; exact below_set (HB.out) GB37.out : Below w.heap.size w w40)); clear HO_4; clear HO_9; clear HO_16; clear HB; have HO_4 := n0_; have HO_9 := n1_; have HO_16 := n2_; have HB := n3_; clear n0_ n1_ n2_ n3_; clear hg hw hp_))); skip)
               go_roundg k4
               case measure => have := HK1.out; have := HJ15.out; have := HK3.out; have := HK4.out; omega
               case rel => exact ⟨(y351), (wrap64 (x17_4 + 1)), (by rfl), H', ⟨by have := HK1.out; have := HJ15.out; have := HK3.out; have := HK4.out; omega⟩, ⟨by exact HO_4.out⟩, ⟨by exact HO_9.out⟩, ⟨by exact HO_16.out⟩, ⟨by exact HB.out⟩⟩
              ·rw [if_neg c36] at H
               exact absurd H (by simp)
             ·rw [if_neg c35] at H
              have c35b0 : decide (x17_4 < (x16_4.length : Int)) = false := decide_eq_false c35
              clear c35
              by_cases c41 : x16_4.length < 17592186044416
              ·rw [if_pos c41] at H
               have LMc41 := Aside0.mk c41
               clear c41
               obtain ⟨y352, hy352⟩ : ∃ y_ : List Int, y_ = (x16_4 ++ [7]) := ⟨_, rfl⟩
               replace H : (if 0 ≤ x15_3 then (if x15_3 < (t323.length : Int) then (if (y352.length : Int) = (wrap64 ((((rd_T56 t323 x15_3).f2).length : Int) + 1)) then (tribunallaw07_SexpOwn.l1 k4 t323 t332 (wrap64 (x15_3 + 1))) else (some false)) else (none)) else (none)) = some r := by ((rw [hy352]; with_reducible exact H))
               have Ny352 := Aside0.mk hy352
               clear hy352
               by_cases c42 : 0 ≤ x15_3
               ·rw [if_pos c42] at H
                have c42b0 : decide (0 ≤ x15_3) = true := decide_eq_true c42
                clear c42
                by_cases c43 : x15_3 < (t323.length : Int)
                ·rw [if_pos c43] at H
                 have c43b0 : decide (x15_3 < (t323.length : Int)) = true := decide_eq_true c43
                 clear c43
                 by_cases c44 : (y352.length : Int) = (wrap64 ((((rd_T56 t323 x15_3).f2).length : Int) + 1))
                 ·rw [if_pos c44] at H
                  have c44b0 : ((y352.length : Int) == (wrap64 ((((rd_T56 t323 x15_3).f2).length : Int) + 1))) = true := beq_iff_eq.mpr c44
                  have c44b1 : ((y352.length : Int) != (wrap64 ((((rd_T56 t323 x15_3).f2).length : Int) + 1))) = false := bne_eq_false_iff_eq.mpr c44
                  clear c44
                  have H' := Aside0.mk H
                  clear H
                  obtain ⟨Ao45, co45, eo45⟩ := Kd.R_slice HO_16.out
                  subst eo45
                  go_wp2_with ((((with_reducible refine gate_builtin (b := .append) (xs := #[.tmp 89, .tmp 90]) rfl ?_); at_builtin; refine Kd.R_append (Kd.int .i64) (w0 := w) w.heap.size rfl (.tmp 89) (.tmp 90) 31 3 (.int .i64 0) 8 rfl Tryz.underlying31 info3 rfl (by decide) (by omega) (.slice Ao45 x16_4.length co45) x16_4 7 [.int .i64 7] (fun _ => True) (fun _ => False) rfl rfl ?aP (fun _ hk => hk.elim) ?aF ?aO ?aB ?aS ?aL ?_; (case aP => exact rfl); (case aB => exact (by exact HB.out)); (case aF => exact (fun _ _ => trivial)); (case aO => exact (by exact HO_16.out)); (case aS => exact (below_size (by exact HB.out))); (case aL => have := LMc41.out; omega); intro v353 w46 ho hb hg hat; rw [← Ny352.out] at ho; have n0_ := Aside0.mk (Kd.S_after (ok := (fun k_ => some k_ ≠ (v337 : Value).ownBlock)) (by exact HO_4.out) hg hat); have n1_ := Aside0.mk (Kd.S_after (ok := (fun k_ => some k_ ≠ (.slice Ao33 t323.length co33 : Value).ownBlock)) (by exact HO_9.out) hg hat); have n2_ := Aside0.mk (hb); have n3_ := Aside0.mk (ho); clear HO_4; clear HO_9; clear HB; clear HO_16; have HO_4 := n0_; have HO_9 := n1_; have HB := n2_; have HO354 := n3_; clear n0_ n1_ n2_ n3_; clear ho hb hg hat; obtain ⟨Ao47, co47, eo47⟩ := Kd.R_slice HO354.out; subst eo47; have p355 : 0 ≤ (x15_3 : Int) := of_decide_eq_true (by assumption); have q355 : x15_3 < (t323.length : Int) := of_decide_eq_true (by assumption); obtain ⟨ad355, A355_6, c355_6, e355, hx355_0, hx355_1, hx355_2, hx355_3, hx355_4, hx355_5, hx355_6, hl355_6, hi355_6⟩ := at_T56 (Kd.S_reads' HO_4.out).2.2 x15_3 p355 q355; cases e355; obtain ⟨ce355, hce355, hMe355, hcc355⟩ := Kd.S_get HO_4.out z56 x15_3 p355 (by exact q355); obtain ⟨ve355_6, rfl, ge355_6⟩ := k56_openM hMe355; have hv355_6 := hcc355 6 _ rfl; rw [add_field _ _ 6 (by omega)] at hv355_6; replace hv355_6 := Option.some.inj (hv355_6.symm.trans hx355_6); rw [hv355_6] at ge355_6; have HL355_6 := Aside0.mk (show Kd.R (Kd.int .i64) 3 _ _ _ _ ((rd_T56 t323 x15_3).f2) from ge355_6); clear hv355_6 ge355_6; clear hcc355 hce355; have HR355_6 := Aside0.mk hi355_6; have HC355_6 := Aside0.mk hl355_6; clear hi355_6 hl355_6; replace p355 := eq_true p355; replace q355 := eq_true q355)))
                  repeat (go_quiet ((((with_reducible refine gate_builtin (b := .append) (xs := #[.tmp 89, .tmp 90]) rfl ?_); at_builtin; refine Kd.R_append (Kd.int .i64) (w0 := w) w.heap.size rfl (.tmp 89) (.tmp 90) 31 3 (.int .i64 0) 8 rfl Tryz.underlying31 info3 rfl (by decide) (by omega) (.slice Ao45 x16_4.length co45) x16_4 7 [.int .i64 7] (fun _ => True) (fun _ => False) rfl rfl ?aP (fun _ hk => hk.elim) ?aF ?aO ?aB ?aS ?aL ?_; (case aP => exact rfl); (case aB => exact (by repeat (fail))); (case aF => exact (fun _ _ => trivial)); (case aO => exact (by exact HO_16.out)); (case aS => exact (below_size (by repeat (fail)))); (case aL => have := LMc41.out; omega); intro v353 w46 ho hb hg hat; rw [← Ny352.out] at ho; have n0_ := Aside0.mk (Kd.S_after (ok := (fun k_ => some k_ ≠ (v337 : Value).ownBlock)) (by exact HO_4.out) hg hat); have n1_ := Aside0.mk (Kd.S_after (ok := (fun k_ => some k_ ≠ (.slice Ao33 t323.length co33 : Value).ownBlock)) (by exact HO_9.out) hg hat); have n2_ := Aside0.mk (hb); have n3_ := Aside0.mk (ho); clear HO_4; clear HO_9; clear HB; clear HO_16; have HO_4 := n0_; have HO_9 := n1_; have HB := n2_; have HO354 := n3_; clear n0_ n1_ n2_ n3_; clear ho hb hg hat; obtain ⟨Ao47, co47, eo47⟩ := Kd.R_slice HO354.out; subst eo47; have p355 : 0 ≤ (x15_3 : Int) := of_decide_eq_true (by first | (with_reducible assumption) | assumption); have q355 : x15_3 < (t323.length : Int) := of_decide_eq_true (by first | (with_reducible assumption) | assumption); obtain ⟨ad355, A355_6, c355_6, e355, hx355_0, hx355_1, hx355_2, hx355_3, hx355_4, hx355_5, hx355_6, hl355_6, hi355_6⟩ := at_T56 (Kd.S_reads' HO_4.out).2.2 x15_3 p355 q355; cases e355; obtain ⟨ce355, hce355, hMe355, hcc355⟩ := Kd.S_get HO_4.out z56 x15_3 p355 (by first | exact q355 | exact of_decide_eq_true (by first | (with_reducible assumption) | assumption) | (have e_ := (Kd.S_reads' HO_4.out).1; omega)); obtain ⟨ve355_6, rfl, ge355_6⟩ := k56_openM hMe355; have hv355_6 := hcc355 6 _ rfl; rw [add_field _ _ 6 (by omega)] at hv355_6; replace hv355_6 := Option.some.inj (hv355_6.symm.trans hx355_6); rw [hv355_6] at ge355_6; have HL355_6 := Aside0.mk (show Kd.R (Kd.int .i64) 3 _ _ _ _ ((rd_T56 t323 x15_3).f2) from ge355_6); clear hv355_6 ge355_6; clear hcc355 hce355; have HR355_6 := Aside0.mk hi355_6; have HC355_6 := Aside0.mk hl355_6; clear hi355_6 hl355_6; replace p355 := eq_true p355; replace q355 := eq_true q355))); skip)
                  go_roundg k4
                  case measure => have := HK1.out; have := HJ15.out; have := HK3.out; have := HK4.out; omega
                  case rel => exact ⟨(wrap64 (x15_3 + 1)), (by rfl), H', ⟨by have := HK1.out; have := HJ15.out; have := HK3.out; have := HK4.out; omega⟩, ⟨by exact Kd.S_mono HO_4.out (fun _ hk => hk.1)⟩, ⟨by exact Kd.S_mono HO_9.out (fun _ hk => hk.1)⟩, ⟨by exact HB.out⟩⟩
                 ·rw [if_neg c44] at H
                  have c44b0 : ((y352.length : Int) == (wrap64 ((((rd_T56 t323 x15_3).f2).length : Int) + 1))) = false := beq_eq_false_iff_ne.mpr c44
                  have c44b1 : ((y352.length : Int) != (wrap64 ((((rd_T56 t323 x15_3).f2).length : Int) + 1))) = true := bne_iff_ne.mpr c44
                  obtain rfl := Option.some.inj H
                  obtain ⟨Ao48, co48, eo48⟩ := Kd.R_slice HO_16.out
                  subst eo48
                  go_wp2_with ((((with_reducible refine gate_builtin (b := .append) (xs := #[.tmp 89, .tmp 90]) rfl ?_); at_builtin; refine Kd.R_append (Kd.int .i64) (w0 := w) w.heap.size rfl (.tmp 89) (.tmp 90) 31 3 (.int .i64 0) 8 rfl Tryz.underlying31 info3 rfl (by decide) (by omega) (.slice Ao48 x16_4.length co48) x16_4 7 [.int .i64 7] (fun _ => True) (fun _ => False) rfl rfl ?aP (fun _ hk => hk.elim) ?aF ?aO ?aB ?aS ?aL ?_; (case aP => exact rfl); (case aB => exact (by exact HB.out)); (case aF => exact (fun _ _ => trivial)); (case aO => exact (by exact HO_16.out)); (case aS => exact (below_size (by exact HB.out))); (case aL => have := LMc41.out; omega); intro v353 w49 ho hb hg hat; rw [← Ny352.out] at ho; have n0_ := Aside0.mk (Kd.S_after (ok := (fun k_ => some k_ ≠ (v337 : Value).ownBlock)) (by exact HO_4.out) hg hat); have n1_ := Aside0.mk (Kd.S_after (ok := (fun k_ => some k_ ≠ (.slice Ao33 t323.length co33 : Value).ownBlock)) (by exact HO_9.out) hg hat); have n2_ := Aside0.mk (hb); have n3_ := Aside0.mk (ho); clear HO_4; clear HO_9; clear HB; clear HO_16; have HO_4 := n0_; have HO_9 := n1_; have HB := n2_; have HO354 := n3_; clear n0_ n1_ n2_ n3_; clear ho hb hg hat; obtain ⟨Ao50, co50, eo50⟩ := Kd.R_slice HO354.out; subst eo50; have p355 : 0 ≤ (x15_3 : Int) := of_decide_eq_true (by assumption); have q355 : x15_3 < (t323.length : Int) := of_decide_eq_true (by assumption); obtain ⟨ad355, A355_6, c355_6, e355, hx355_0, hx355_1, hx355_2, hx355_3, hx355_4, hx355_5, hx355_6, hl355_6, hi355_6⟩ := at_T56 (Kd.S_reads' HO_4.out).2.2 x15_3 p355 q355; cases e355; obtain ⟨ce355, hce355, hMe355, hcc355⟩ := Kd.S_get HO_4.out z56 x15_3 p355 (by exact q355); obtain ⟨ve355_6, rfl, ge355_6⟩ := k56_openM hMe355; have hv355_6 := hcc355 6 _ rfl; rw [add_field _ _ 6 (by omega)] at hv355_6; replace hv355_6 := Option.some.inj (hv355_6.symm.trans hx355_6); rw [hv355_6] at ge355_6; have HL355_6 := Aside0.mk (show Kd.R (Kd.int .i64) 3 _ _ _ _ ((rd_T56 t323 x15_3).f2) from ge355_6); clear hv355_6 ge355_6; clear hcc355 hce355; have HR355_6 := Aside0.mk hi355_6; have HC355_6 := Aside0.mk hl355_6; clear hi355_6 hl355_6; replace p355 := eq_true p355; replace q355 := eq_true q355)))
                  repeat (go_quiet ((((with_reducible refine gate_builtin (b := .append) (xs := #[.tmp 89, .tmp 90]) rfl ?_); at_builtin; refine Kd.R_append (Kd.int .i64) (w0 := w) w.heap.size rfl (.tmp 89) (.tmp 90) 31 3 (.int .i64 0) 8 rfl Tryz.underlying31 info3 rfl (by decide) (by omega) (.slice Ao48 x16_4.length co48) x16_4 7 [.int .i64 7] (fun _ => True) (fun _ => False) rfl rfl ?aP (fun _ hk => hk.elim) ?aF ?aO ?aB ?aS ?aL ?_; (case aP => exact rfl); (case aB => exact (by repeat (fail))); (case aF => exact (fun _ _ => trivial)); (case aO => exact (by exact HO_16.out)); (case aS => exact (below_size (by repeat (fail)))); (case aL => have := LMc41.out; omega); intro v353 w49 ho hb hg hat; rw [← Ny352.out] at ho; have n0_ := Aside0.mk (Kd.S_after (ok := (fun k_ => some k_ ≠ (v337 : Value).ownBlock)) (by exact HO_4.out) hg hat); have n1_ := Aside0.mk (Kd.S_after (ok := (fun k_ => some k_ ≠ (.slice Ao33 t323.length co33 : Value).ownBlock)) (by exact HO_9.out) hg hat); have n2_ := Aside0.mk (hb); have n3_ := Aside0.mk (ho); clear HO_4; clear HO_9; clear HB; clear HO_16; have HO_4 := n0_; have HO_9 := n1_; have HB := n2_; have HO354 := n3_; clear n0_ n1_ n2_ n3_; clear ho hb hg hat; obtain ⟨Ao50, co50, eo50⟩ := Kd.R_slice HO354.out; subst eo50; have p355 : 0 ≤ (x15_3 : Int) := of_decide_eq_true (by first | (with_reducible assumption) | assumption); have q355 : x15_3 < (t323.length : Int) := of_decide_eq_true (by first | (with_reducible assumption) | assumption); obtain ⟨ad355, A355_6, c355_6, e355, hx355_0, hx355_1, hx355_2, hx355_3, hx355_4, hx355_5, hx355_6, hl355_6, hi355_6⟩ := at_T56 (Kd.S_reads' HO_4.out).2.2 x15_3 p355 q355; cases e355; obtain ⟨ce355, hce355, hMe355, hcc355⟩ := Kd.S_get HO_4.out z56 x15_3 p355 (by first | exact q355 | exact of_decide_eq_true (by first | (with_reducible assumption) | assumption) | (have e_ := (Kd.S_reads' HO_4.out).1; omega)); obtain ⟨ve355_6, rfl, ge355_6⟩ := k56_openM hMe355; have hv355_6 := hcc355 6 _ rfl; rw [add_field _ _ 6 (by omega)] at hv355_6; replace hv355_6 := Option.some.inj (hv355_6.symm.trans hx355_6); rw [hv355_6] at ge355_6; have HL355_6 := Aside0.mk (show Kd.R (Kd.int .i64) 3 _ _ _ _ ((rd_T56 t323 x15_3).f2) from ge355_6); clear hv355_6 ge355_6; clear hcc355 hce355; have HR355_6 := Aside0.mk hi355_6; have HC355_6 := Aside0.mk hl355_6; clear hi355_6 hl355_6; replace p355 := eq_true p355; replace q355 := eq_true q355))); skip)
                  go_ret
                  exact ⟨by rfl, by exact HB.out⟩
                ·rw [if_neg c43] at H
                 exact absurd H (by simp)
               ·rw [if_neg c42] at H
                exact absurd H (by simp)
              ·rw [if_neg c41] at H
               exact absurd H (by simp)
          ·rw [if_neg c31] at H
           have c31b0 : decide (x15_3 < (t323.length : Int)) = false := decide_eq_false c31
           clear c31
           replace H := Option.bind_eq_some_iff.mp H
           obtain ⟨t346, A510, H⟩ := H
           replace H : (if t346 = true then ((tribunallaw07_alive.f k3).bind fun t347 => (some t347)) else (some false)) = some r := H
           have A51 := Aside0.mk A510
           clear A510
           by_cases c52 : t346 = true
           ·subst c52
            have H1 : ((tribunallaw07_alive.f k3).bind fun t347 => (some t347)) = some r := by rw [if_pos rfl] at H; exact H
            clear H
            have H := H1
            clear H1
            replace H := Option.bind_eq_some_iff.mp H
            obtain ⟨t347, A530, H⟩ := H
            replace H : (some t347) = some r := H
            have A53 := Aside0.mk A530
            clear A530
            obtain rfl := Option.some.inj H
            obtain ⟨Ao54, co54, eo54⟩ := Kd.S_slice HO_4.out
            subst eo54
            obtain ⟨Ao55, co55, eo55⟩ := Kd.S_slice HO_9.out
            subst eo55
            go_wp2_with (first | (go_at_call 26; (with_reducible refine (tribunalref07_Same.calls _ _ t323 _ _ t332 true _ ?side1 ?side2 ?side3 ?side4 A51.out).mono ?_); (case side1 => repeat (exact (Kd.S_reads' HO_4.out).2.2)); (case side2 => exact (Kd.S_reads' HO_4.out).2.1); (case side3 => repeat (exact (Kd.S_reads' HO_9.out).2.2)); (case side4 => exact (Kd.S_reads' HO_9.out).2.1); rintro e w56 ⟨rfl, hb⟩; have n0_ := Aside0.mk (Kd.S_below (by exact HO_4.out) hb); have n1_ := Aside0.mk (Kd.S_below (by exact HO_9.out) hb); have n2_ := Aside0.mk (below_step (by exact HB.out) hb); clear HO_4; clear HO_9; clear HB; have HO_4 := n0_; have HO_9 := n1_; have HB := n2_; clear n0_ n1_ n2_; (try clear hb); ) | (go_at_call 14; (with_reducible refine (tribunallaw07_alive.calls k3  t347 _ A53.out).mono ?_); rintro e w57 ⟨rfl, hb⟩; have n0_ := Aside0.mk (Kd.S_below (by exact HO_4.out) hb); have n1_ := Aside0.mk (Kd.S_below (by exact HO_9.out) hb); have n2_ := Aside0.mk (below_step (by exact HB.out) hb); clear HO_4; clear HO_9; clear HB; have HO_4 := n0_; have HO_9 := n1_; have HB := n2_; clear n0_ n1_ n2_; (try clear hb); ))
            repeat (go_quiet (first | (go_at_call 26; (with_reducible refine (tribunalref07_Same.calls _ _ t323 _ _ t332 true _ ?side1 ?side2 ?side3 ?side4 A51.out).mono ?_); (case side1 => repeat (fail)); (case side2 => exact (Kd.S_reads' HO_4.out).2.1); (case side3 => repeat (fail)); (case side4 => exact (Kd.S_reads' HO_9.out).2.1); rintro e w56 ⟨rfl, hb⟩; have n0_ := Aside0.mk (Kd.S_below (by exact HO_4.out) hb); have n1_ := Aside0.mk (Kd.S_below (by exact HO_9.out) hb); have n2_ := Aside0.mk (below_step (by repeat (fail)) hb); clear HO_4; clear HO_9; clear HB; have HO_4 := n0_; have HO_9 := n1_; have HB := n2_; clear n0_ n1_ n2_; ) | (go_at_call 14; (with_reducible refine (tribunallaw07_alive.calls k3  t347 _ A53.out).mono ?_); rintro e w57 ⟨rfl, hb⟩; have n0_ := Aside0.mk (Kd.S_below (by exact HO_4.out) hb); have n1_ := Aside0.mk (Kd.S_below (by exact HO_9.out) hb); have n2_ := Aside0.mk (below_step (by repeat (fail)) hb); clear HO_4; clear HO_9; clear HB; have HO_4 := n0_; have HO_9 := n1_; have HB := n2_; clear n0_ n1_ n2_; )); skip)
            go_ret
            exact ⟨by rfl, by exact HB.out⟩
           ·replace c52 := Bool.eq_false_iff.mpr c52
            subst c52
            have H1 : (some false) = some r := by rw [if_neg (show ¬ (false = true) by decide)] at H; exact H
            clear H
            have H := H1
            clear H1
            obtain rfl := Option.some.inj H
            obtain ⟨Ao58, co58, eo58⟩ := Kd.S_slice HO_4.out
            subst eo58
            obtain ⟨Ao59, co59, eo59⟩ := Kd.S_slice HO_9.out
            subst eo59
            go_wp2_with (((go_at_call 26; (with_reducible refine (tribunalref07_Same.calls _ _ t323 _ _ t332 false _ ?side1 ?side2 ?side3 ?side4 A51.out).mono ?_); (case side1 => repeat (exact (Kd.S_reads' HO_4.out).2.2)); (case side2 => exact (Kd.S_reads' HO_4.out).2.1); (case side3 => repeat (exact (Kd.S_reads' HO_9.out).2.2)); (case side4 => exact (Kd.S_reads' HO_9.out).2.1); rintro e w60 ⟨rfl, hb⟩; have n0_ := Aside0.mk (Kd.S_below (by exact HO_4.out) hb); have n1_ := Aside0.mk (Kd.S_below (by exact HO_9.out) hb); have n2_ := Aside0.mk (below_step (by exact HB.out) hb); clear HO_4; clear HO_9; clear HB; have HO_4 := n0_; have HO_9 := n1_; have HB := n2_; clear n0_ n1_ n2_; (try clear hb); )))
            repeat (go_quiet (((go_at_call 26; (with_reducible refine (tribunalref07_Same.calls _ _ t323 _ _ t332 false _ ?side1 ?side2 ?side3 ?side4 A51.out).mono ?_); (case side1 => repeat (fail)); (case side2 => exact (Kd.S_reads' HO_4.out).2.1); (case side3 => repeat (fail)); (case side4 => exact (Kd.S_reads' HO_9.out).2.1); rintro e w60 ⟨rfl, hb⟩; have n0_ := Aside0.mk (Kd.S_below (by exact HO_4.out) hb); have n1_ := Aside0.mk (Kd.S_below (by exact HO_9.out) hb); have n2_ := Aside0.mk (below_step (by repeat (fail)) hb); clear HO_4; clear HO_9; clear HB; have HO_4 := n0_; have HO_9 := n1_; have HB := n2_; clear n0_ n1_ n2_; ))); skip)
            go_ret
            exact ⟨by rfl, by exact HB.out⟩
 ·rw [if_neg c2] at H
  exact absurd H (by simp)

end Go.Proofs.YthklnopfgoekeaaGreatDoor.X
