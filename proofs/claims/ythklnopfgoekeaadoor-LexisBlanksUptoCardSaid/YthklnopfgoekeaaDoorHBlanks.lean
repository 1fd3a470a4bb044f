-- written by this session's wip/pr.py, which runs the kit's printer
import Derived.Test.YthklnopfgoekeaaDoorX0
import Derived.Test.YthklnopfgoekeaaDoorX6
import Derived.Test.YthklnopfgoekeaaDoorX7
import Derived.Test.YthklnopfgoekeaaDoorHJoin
import Derived.Test.YthklnopfgoekeaaDoorHScan
import Derived.Test.YthklnopfgoekeaaDoorHWrite
namespace Go.Proofs.YthklnopfgoekeaaDoor.X
open Go.RowKit Go.Proofs.YthklnopfgoekeaaDoorW.PrintWords Go.Proofs.YthklnopfgoekeaaDoorW.PrintLast Go.Proofs.YthklnopfgoekeaaDoorW.PrintMore
attribute [local go_sem] max2_int min2_int max_two min_two max_three min_three max_four min_four   -- for this text's walks alone
set_option linter.unusedVariables false
set_option linter.unusedSimpArgs false

/-! ### tribunallaw06_LexisBlanks: function 8 -/
mutual
def tribunallaw06_LexisBlanks.l0 : Nat → List (S38) → List ByteArray → ByteArray → Int → ByteArray → Int → Option (Bool)
  | 0, _, _, _, _, _, _ => none
  | k + 1, x0, x1, x5, x6, x7, x8 => if x8 < (x0.length : Int) then (tribunallaw06_LexisBlanks.j1 k x0 x1 x5 x6 x7 x8 (x6 == 0)) else (tribunallaw06_LexisBlanks.j1 k x0 x1 x5 x6 x7 x8 false)
def tribunallaw06_LexisBlanks.j1 : Nat → List (S38) → List ByteArray → ByteArray → Int → ByteArray → Int → Bool → Option (Bool)
  | 0, _, _, _, _, _, _, _ => none
  | k + 1, x0, x1, x5, x6, x7, x8, x34 => if x34 = true then (if 0 ≤ x8 then (if x8 < (x0.length : Int) then ((lexis_Write.f ((rd_T38 x0 x8).f0) ((rd_T38 x0 x8).f1) ((rd_T38 x0 x8).f2) ((rd_T38 x0 x8).f3) ((rd_T38 x0 x8).f4)).bind fun bt185 => (if x7.size + 2 ≤ 9223372036854775807 then (if (x7 ++ (⟨#[32, 9]⟩ : ByteArray)).size + bt185.1.size ≤ 9223372036854775807 then (if ((x7 ++ (⟨#[32, 9]⟩ : ByteArray)) ++ bt185.1).size + 2 ≤ 9223372036854775807 then (if x8 < (x1.length : Int) then (tribunallaw06_LexisBlanks.l1 k x0 x1 x5 x6 (((x7 ++ (⟨#[32, 9]⟩ : ByteArray)) ++ bt185.1) ++ (⟨#[13, 10]⟩ : ByteArray)) x8 0) else (tribunallaw06_LexisBlanks.l0 k x0 x1 x5 x6 (((x7 ++ (⟨#[32, 9]⟩ : ByteArray)) ++ bt185.1) ++ (⟨#[13, 10]⟩ : ByteArray)) (wrap64 (x8 + 1)))) else (none)) else (none)) else (none))) else (none)) else (none)) else (if x6 = 0 then (tribunallaw06_LexisBlanks.j3 k x5 x7 (decide ((x7.size : Int) > 1048576))) else (tribunallaw06_LexisBlanks.j3 k x5 x7 true))
def tribunallaw06_LexisBlanks.l1 : Nat → List (S38) → List ByteArray → ByteArray → Int → ByteArray → Int → Int → Option (Bool)
  | 0, _, _, _, _, _, _, _ => none
  | k + 1, x0, x1, x5, x6, x7, x8, x11 => if 0 ≤ x8 then (if x8 < (x1.length : Int) then (if x11 < ((rdOf ByteArray.empty x1 x8).size : Int) then (if 0 ≤ x11 then (if (bt (rdOf ByteArray.empty x1 x8) x11) = 10 then (some true) else (tribunallaw06_LexisBlanks.l1 k x0 x1 x5 x6 x7 x8 (wrap64 (x11 + 1)))) else (none)) else (if x7.size + 1 ≤ 9223372036854775807 then (if (x7 ++ (⟨#[59]⟩ : ByteArray)).size + (rdOf ByteArray.empty x1 x8).size ≤ 9223372036854775807 then (if ((x7 ++ (⟨#[59]⟩ : ByteArray)) ++ (rdOf ByteArray.empty x1 x8)).size + 1 ≤ 9223372036854775807 then (tribunallaw06_LexisBlanks.l0 k x0 x1 x5 x6 (((x7 ++ (⟨#[59]⟩ : ByteArray)) ++ (rdOf ByteArray.empty x1 x8)) ++ (⟨#[10]⟩ : ByteArray)) (wrap64 (x8 + 1))) else (none)) else (none)) else (none))) else (none)) else (none)
def tribunallaw06_LexisBlanks.j3 : Nat → ByteArray → ByteArray → Bool → Option (Bool)
  | 0, _, _, _ => none
  | k + 1, x5, x7, x84 => if x84 = true then (some true) else ((lexis_Scan.f x5).bind fun bt190 => ((lexis_Scan.f x7).bind fun bt196 => (if bt190.2.2.2 = 0 then (if bt196.2.2.2 = 0 then ((tribunalref06_Same.f k bt190.1 bt196.1 false).bind fun t202 => (some t202)) else (some false)) else (some false))))
end
def tribunallaw06_LexisBlanks.f (k : Nat) (l0 : List (S38)) (l1 : List ByteArray) : Option (Bool) := (tribunallaw06_awake.f).bind fun t181 => (if t181 = true then ((lexis_Join.f l0).bind fun bt182 => (tribunallaw06_LexisBlanks.l0 k l0 l1 bt182.1 bt182.2 (⟨#[]⟩ : ByteArray) 0)) else (some false))
theorem tribunallaw06_LexisBlanks.mono_l : ∀ k, (∀ y0 y1 y2 y3 y4 y5, LeO (tribunallaw06_LexisBlanks.l0 k y0 y1 y2 y3 y4 y5) (tribunallaw06_LexisBlanks.l0 (k + 1) y0 y1 y2 y3 y4 y5)) ∧ (∀ y0 y1 y2 y3 y4 y5 y6, LeO (tribunallaw06_LexisBlanks.j1 k y0 y1 y2 y3 y4 y5 y6) (tribunallaw06_LexisBlanks.j1 (k + 1) y0 y1 y2 y3 y4 y5 y6)) ∧ (∀ y0 y1 y2 y3 y4 y5 y6, LeO (tribunallaw06_LexisBlanks.l1 k y0 y1 y2 y3 y4 y5 y6) (tribunallaw06_LexisBlanks.l1 (k + 1) y0 y1 y2 y3 y4 y5 y6)) ∧ (∀ y0 y1 y2, LeO (tribunallaw06_LexisBlanks.j3 k y0 y1 y2) (tribunallaw06_LexisBlanks.j3 (k + 1) y0 y1 y2))
  | 0 => ⟨fun _ _ _ _ _ _ r h => by simp [tribunallaw06_LexisBlanks.l0] at h, fun _ _ _ _ _ _ _ r h => by simp [tribunallaw06_LexisBlanks.j1] at h, fun _ _ _ _ _ _ _ r h => by simp [tribunallaw06_LexisBlanks.l1] at h, fun _ _ _ r h => by simp [tribunallaw06_LexisBlanks.j3] at h⟩
  | k + 1 => by
    obtain ⟨ih0, ih1, ih2, ih3⟩ := tribunallaw06_LexisBlanks.mono_l k
    refine ⟨?_, ?_, ?_, ?_⟩
    · intro y0 y1 y2 y3 y4 y5
      unfold tribunallaw06_LexisBlanks.l0
      repeat' first
      | (with_reducible exact ih0 _ _ _ _ _ _)
      | (with_reducible exact ih1 _ _ _ _ _ _ _)
      | (with_reducible exact ih2 _ _ _ _ _ _ _)
      | (with_reducible exact ih3 _ _ _)
      | (with_reducible exact tribunalref06_Same.mono _ _ _ _)
      | (with_reducible exact LeO.refl _)
      | (with_reducible exact LeO.none _)
      | (with_reducible refine LeO.ite ?_ ?_)
      | (with_reducible refine LeO.bind ?_ (fun _ => ?_))
      | exact ih0 _ _ _ _ _ _
      | exact ih1 _ _ _ _ _ _ _
      | exact ih2 _ _ _ _ _ _ _
      | exact ih3 _ _ _
      | exact tribunalref06_Same.mono _ _ _ _
      | exact LeO.none _
      | refine LeO.ite ?_ ?_
      | refine LeO.bind ?_ (fun _ => ?_)
    · intro y0 y1 y2 y3 y4 y5 y6
      unfold tribunallaw06_LexisBlanks.j1
      repeat' first
      | (with_reducible exact ih0 _ _ _ _ _ _)
      | (with_reducible exact ih1 _ _ _ _ _ _ _)
      | (with_reducible exact ih2 _ _ _ _ _ _ _)
      | (with_reducible exact ih3 _ _ _)
      | (with_reducible exact tribunalref06_Same.mono _ _ _ _)
      | (with_reducible exact LeO.refl _)
      | (with_reducible exact LeO.none _)
      | (with_reducible refine LeO.ite ?_ ?_)
      | (with_reducible refine LeO.bind ?_ (fun _ => ?_))
      | exact ih0 _ _ _ _ _ _
      | exact ih1 _ _ _ _ _ _ _
      | exact ih2 _ _ _ _ _ _ _
      | exact ih3 _ _ _
      | exact tribunalref06_Same.mono _ _ _ _
      | exact LeO.none _
      | refine LeO.ite ?_ ?_
      | refine LeO.bind ?_ (fun _ => ?_)
    · intro y0 y1 y2 y3 y4 y5 y6
      unfold tribunallaw06_LexisBlanks.l1
      repeat' first
      | (with_reducible exact ih0 _ _ _ _ _ _)
      | (with_reducible exact ih1 _ _ _ _ _ _ _)
      | (with_reducible exact ih2 _ _ _ _ _ _ _)
      | (with_reducible exact ih3 _ _ _)
      | (with_reducible exact tribunalref06_Same.mono _ _ _ _)
      | (with_reducible exact LeO.refl _)
      | (with_reducible exact LeO.none _)
      | (with_reducible refine LeO.ite ?_ ?_)
      | (with_reducible refine LeO.bind ?_ (fun _ => ?_))
      | exact ih0 _ _ _ _ _ _
      | exact ih1 _ _ _ _ _ _ _
      | exact ih2 _ _ _ _ _ _ _
      | exact ih3 _ _ _
      | exact tribunalref06_Same.mono _ _ _ _
      | exact LeO.none _
      | refine LeO.ite ?_ ?_
      | refine LeO.bind ?_ (fun _ => ?_)
    · intro y0 y1 y2
      unfold tribunallaw06_LexisBlanks.j3
      repeat' first
      | (with_reducible exact ih0 _ _ _ _ _ _)
      | (with_reducible exact ih1 _ _ _ _ _ _ _)
      | (with_reducible exact ih2 _ _ _ _ _ _ _)
      | (with_reducible exact ih3 _ _ _)
      | (with_reducible exact tribunalref06_Same.mono _ _ _ _)
      | (with_reducible exact LeO.refl _)
      | (with_reducible exact LeO.none _)
      | (with_reducible refine LeO.ite ?_ ?_)
      | (with_reducible refine LeO.bind ?_ (fun _ => ?_))
      | exact ih0 _ _ _ _ _ _
      | exact ih1 _ _ _ _ _ _ _
      | exact ih2 _ _ _ _ _ _ _
      | exact ih3 _ _ _
      | exact tribunalref06_Same.mono _ _ _ _
      | exact LeO.none _
      | refine LeO.ite ?_ ?_
      | refine LeO.bind ?_ (fun _ => ?_)
theorem tribunallaw06_LexisBlanks.mono : ∀ a0 a1 k, LeO (tribunallaw06_LexisBlanks.f k a0 a1) (tribunallaw06_LexisBlanks.f (k + 1) a0 a1) := by
  intro a0 a1 k
  obtain ⟨ih0, ih1, ih2, ih3⟩ := tribunallaw06_LexisBlanks.mono_l k
  unfold tribunallaw06_LexisBlanks.f
  repeat' first
      | (with_reducible exact ih0 _ _ _ _ _ _)
      | (with_reducible exact ih1 _ _ _ _ _ _ _)
      | (with_reducible exact ih2 _ _ _ _ _ _ _)
      | (with_reducible exact ih3 _ _ _)
      | (with_reducible exact tribunalref06_Same.mono _ _ _ _)
      | (with_reducible exact LeO.refl _)
      | (with_reducible exact LeO.none _)
      | (with_reducible refine LeO.ite ?_ ?_)
      | (with_reducible refine LeO.bind ?_ (fun _ => ?_))
      | exact ih0 _ _ _ _ _ _
      | exact ih1 _ _ _ _ _ _ _
      | exact ih2 _ _ _ _ _ _ _
      | exact ih3 _ _ _
      | exact tribunalref06_Same.mono _ _ _ _
      | exact LeO.none _
      | refine LeO.ite ?_ ?_
      | refine LeO.bind ?_ (fun _ => ?_)
set_option maxHeartbeats 8000000 in
set_option maxRecDepth 100000 in
theorem tribunallaw06_LexisBlanks.calls (k : Nat) (A0 : Option Addr) (c0 : Nat) (l0 : List (S38)) (A1 : Option Addr) (c1 : Nat) (l1 : List ByteArray) (r : Bool) (w : World) (hr0 : Kd.C k38 w A0 l0.length l0) (hc0 : l0.length ≤ c0) (hr1 : Kd.C Kd.string w A1 l1.length l1) (hc1 : l1.length ≤ c1) (h : tribunallaw06_LexisBlanks.f k l0 l1 = some r) :
    Calls Tryd.prog 8 #[.slice A0 l0.length c0, .slice A1 l1.length c1] w fun e w' => e = .returned (.bool r) ∧ Below w.heap.size w w' := by
  have hu38 := Tryd.underlying38
  have HR0 := Aside0.mk hr0
  have HC0 := Aside0.mk hc0
  clear hr0 hc0
  have HR1 := Aside0.mk hr1
  have HC1 := Aside0.mk hc1
  clear hr1 hc1
  have HB := Aside0.mk (Below.refl w.heap.size w)
  have H : ((tribunallaw06_awake.f).bind fun t181 => (if t181 = true then ((lexis_Join.f l0).bind fun bt182 => (tribunallaw06_LexisBlanks.l0 k l0 l1 bt182.1 bt182.2 (⟨#[]⟩ : ByteArray) 0)) else (some false))) = some r := h
  clear h
  replace H := Option.bind_eq_some_iff.mp H
  obtain ⟨t181, A30, H⟩ := H
  replace H : (if t181 = true then ((lexis_Join.f l0).bind fun bt182 => (tribunallaw06_LexisBlanks.l0 k l0 l1 bt182.1 bt182.2 (⟨#[]⟩ : ByteArray) 0)) else (some false)) = some r := H
  have A3 := Aside0.mk A30
  clear A30
  by_cases c4 : t181 = true
  · subst c4
    have H1 : ((lexis_Join.f l0).bind fun bt182 => (tribunallaw06_LexisBlanks.l0 k l0 l1 bt182.1 bt182.2 (⟨#[]⟩ : ByteArray) 0)) = some r := by rw [if_pos rfl] at H; exact H
    clear H
    have H := H1
    clear H1
    replace H := Option.bind_eq_some_iff.mp H
    obtain ⟨⟨t182, t183⟩, A50, H⟩ := H
    replace H : (tribunallaw06_LexisBlanks.l0 k l0 l1 t182 t183 (⟨#[]⟩ : ByteArray) 0) = some r := H
    have A5 := Aside0.mk A50
    clear A50
    have H' := Aside0.mk H
    clear H
    go_enter Tryd.func8, Tryd.ntmps8
    go_wp2_with (first | ((with_reducible refine gate_callee (f := 18) rfl ?_); refine goesL_ (some 20) rfl rfl Tryd.func18 (by kernel_rfl) rfl #[] rfl (by (try simp only [List.map_toArray, List.map_cons, List.map_nil]); first | done | rfl | (simp only [List.length_drop, List.length_take]; rfl)) ?_; (with_reducible refine (tribunallaw06_awake.calls  true _ A3.out).mono ?_); rintro e w6 ⟨rfl, hb⟩; refine ⟨_, rfl, ?_⟩; have n0_ := Aside0.mk (below_step (by repeat (first | (with_reducible first | exact HB.out | apply below_alloc | apply pw_below_drewN | apply below_drew1) | exact HB.out)) hb); clear HB; have HB := n0_; clear n0_; (try clear hb); (try clear hb2); (try clear hk); (try clear hi)) | ((with_reducible refine gate_callee (f := 19) rfl ?_); refine goesL_ (some 24) rfl rfl Tryd.func19 (by kernel_rfl) rfl #[.slice A0 l0.length c0] rfl (by (try simp only [List.map_toArray, List.map_cons, List.map_nil]); first | done | rfl | (simp only [List.length_drop, List.length_take]; rfl)) ?_; (with_reducible refine (lexis_Join.calls _ _ l0 t182 t183 _ ?side1 ?side2 A5.out).mono ?_); (case side1 => repeat (first | exact (Kd.C_below HR0.out HB.out) | (with_reducible refine Kd.C_alloc ?_ _) | (with_reducible refine Kd.C_drewN ?_ _) | (with_reducible refine Kd.C_drew ?_))); (case side2 => exact HC0.out); rintro e w7 ⟨rfl, hb⟩; refine ⟨_, rfl, ?_⟩; have n0_ := Aside0.mk (below_step (by repeat (first | (with_reducible first | exact HB.out | apply below_alloc | apply pw_below_drewN | apply below_drew1) | exact HB.out)) hb); clear HB; have HB := n0_; clear n0_; (try clear hb); (try clear hb2); (try clear hk); (try clear hi)))
    go_loopg [7, 8] k (fun kq v7 v8 w' => ∃ (x7_1 : ByteArray) (x8_1 : Int), v7 = .string x7_1 ∧ v8 = .int .i64 x8_1 ∧ Aside0 (tribunallaw06_LexisBlanks.l0 kq l0 l1 t182 t183 x7_1 x8_1 = some r) ∧ Aside0 (kq ≤ k) ∧ Aside0 (Below w.heap.size w w'))
    case atStart => exact ⟨((⟨#[]⟩ : ByteArray)), (0), (by first | rfl | (simp; done) | (simp [*]; done)), (by first | rfl | (simp; done) | (simp [*]; done)), H', ⟨Nat.le_refl _⟩, ⟨by repeat (first | (with_reducible first | exact HB.out | apply below_alloc | apply pw_below_drewN | apply below_drew1) | exact HB.out)⟩⟩
    case round =>
      clear H'
      try clear c1
      try clear p2
      try clear c4
      obtain ⟨x7_1, x8_1, rfl, rfl, HA, HK1, HB⟩ := hrel
      cases gk with
      | zero => exact absurd HA.out (by simp [tribunallaw06_LexisBlanks.l0])
      | succ k1 =>
        have H := HA.out
        clear HA
        simp only [tribunallaw06_LexisBlanks.l0] at H
        have HC8 := Aside0.mk H
        clear H
        go_upto_region 6 with (fail)
        go_cut [34] (fun v34 wc => ∃ (kq : Nat) (x34_7 : Bool), v34 = .bool x34_7 ∧ Aside0 (tribunallaw06_LexisBlanks.j1 kq l0 l1 t182 t183 x7_1 x8_1 x34_7 = some r) ∧ Aside0 (kq ≤ k1) ∧ Aside0 (Below w.heap.size w wc))
        case first =>
          have H := HC8.out
          clear HC8
          by_cases c9 : x8_1 < (l0.length : Int)
          · rw [if_pos c9] at H
            have c9b0 : decide (x8_1 < (l0.length : Int)) = true := decide_eq_true c9
            clear c9
            (first | rw [c9b0] | (simp only [i64_w, i32_w]; rw [c9b0]) | skip)
            have H' := Aside0.mk H
            clear H
            go_wp2
            go_meet
            case rel => exact ⟨_, ((t183 == 0)), (by first | rfl | (simp; done) | (simp [*]; done)), H', ⟨by have := HK1.out; first | omega | exact Nat.le_refl _⟩, ⟨by repeat (first | (with_reducible first | exact HB.out | apply below_alloc | apply pw_below_drewN | apply below_drew1) | exact HB.out)⟩⟩
          · rw [if_neg c9] at H
            have c9b0 : decide (x8_1 < (l0.length : Int)) = false := decide_eq_false c9
            clear c9
            (first | rw [c9b0] | (simp only [i64_w, i32_w]; rw [c9b0]) | skip)
            have H' := Aside0.mk H
            clear H
            go_wp2
            go_meet
            case rel => exact ⟨_, (false), (by first | rfl | (simp; done) | (simp [*]; done)), H', ⟨by have := HK1.out; first | omega | exact Nat.le_refl _⟩, ⟨by repeat (first | (with_reducible first | exact HB.out | apply below_alloc | apply pw_below_drewN | apply below_drew1) | exact HB.out)⟩⟩
        case rest =>
          clear HC8
          try clear c1
          try clear p2
          try clear c4
          try clear c8
          try clear c9
          try clear c9b0
          try clear p2
          obtain ⟨kq, x34_7, rfl, HA, HJ7, HB⟩ := hcut
          cases kq with
          | zero => exact absurd HA.out (by simp [tribunallaw06_LexisBlanks.j1])
          | succ kj7 =>
            have H := HA.out
            clear HA
            simp only [tribunallaw06_LexisBlanks.j1] at H
            by_cases c10 : x34_7 = true
            · subst c10
              have H1 : (if 0 ≤ x8_1 then (if x8_1 < (l0.length : Int) then ((lexis_Write.f ((rd_T38 l0 x8_1).f0) ((rd_T38 l0 x8_1).f1) ((rd_T38 l0 x8_1).f2) ((rd_T38 l0 x8_1).f3) ((rd_T38 l0 x8_1).f4)).bind fun bt185 => (if x7_1.size + 2 ≤ 9223372036854775807 then (if (x7_1 ++ (⟨#[32, 9]⟩ : ByteArray)).size + bt185.1.size ≤ 9223372036854775807 then (if ((x7_1 ++ (⟨#[32, 9]⟩ : ByteArray)) ++ bt185.1).size + 2 ≤ 9223372036854775807 then (if x8_1 < (l1.length : Int) then (tribunallaw06_LexisBlanks.l1 kj7 l0 l1 t182 t183 (((x7_1 ++ (⟨#[32, 9]⟩ : ByteArray)) ++ bt185.1) ++ (⟨#[13, 10]⟩ : ByteArray)) x8_1 0) else (tribunallaw06_LexisBlanks.l0 kj7 l0 l1 t182 t183 (((x7_1 ++ (⟨#[32, 9]⟩ : ByteArray)) ++ bt185.1) ++ (⟨#[13, 10]⟩ : ByteArray)) (wrap64 (x8_1 + 1)))) else (none)) else (none)) else (none))) else (none)) else (none)) = some r := by rw [if_pos rfl] at H; exact H
              clear H
              have H := H1
              clear H1
              by_cases c11 : 0 ≤ x8_1
              · rw [if_pos c11] at H
                have c11b0 : decide (0 ≤ x8_1) = true := decide_eq_true c11
                clear c11
                by_cases c12 : x8_1 < (l0.length : Int)
                · rw [if_pos c12] at H
                  have c12b0 : decide (x8_1 < (l0.length : Int)) = true := decide_eq_true c12
                  clear c12
                  replace H := Option.bind_eq_some_iff.mp H
                  obtain ⟨⟨t185, t186⟩, A130, H⟩ := H
                  replace H : (if x7_1.size + 2 ≤ 9223372036854775807 then (if (x7_1 ++ (⟨#[32, 9]⟩ : ByteArray)).size + t185.size ≤ 9223372036854775807 then (if ((x7_1 ++ (⟨#[32, 9]⟩ : ByteArray)) ++ t185).size + 2 ≤ 9223372036854775807 then (if x8_1 < (l1.length : Int) then (tribunallaw06_LexisBlanks.l1 kj7 l0 l1 t182 t183 (((x7_1 ++ (⟨#[32, 9]⟩ : ByteArray)) ++ t185) ++ (⟨#[13, 10]⟩ : ByteArray)) x8_1 0) else (tribunallaw06_LexisBlanks.l0 kj7 l0 l1 t182 t183 (((x7_1 ++ (⟨#[32, 9]⟩ : ByteArray)) ++ t185) ++ (⟨#[13, 10]⟩ : ByteArray)) (wrap64 (x8_1 + 1)))) else (none)) else (none)) else (none)) = some r := H
                  have A13 := Aside0.mk A130
                  clear A130
                  by_cases c14 : x7_1.size + 2 ≤ 9223372036854775807
                  · rw [if_pos c14] at H
                    have c14b0 := eq_true c14
                    have c14b1 : decide (x7_1.size + 2 ≤ 9223372036854775807) = true := decide_eq_true c14
                    try have c14b2 : (9223372036854775807 < x7_1.size + 2) = False := eq_false (Nat.not_lt.2 c14)
                    by_cases c15 : (x7_1 ++ (⟨#[32, 9]⟩ : ByteArray)).size + t185.size ≤ 9223372036854775807
                    · rw [if_pos c15] at H
                      have c15b0 := eq_true c15
                      have c15n : (9223372036854775807 < x7_1.size + 2 + t185.size) = False := eq_false (by have z := c15; simp only [ByteArray.size_append] at z; have e2 : (⟨#[32, 9]⟩ : ByteArray).size = 2 := rfl; have e3 : (⟨#[13, 10]⟩ : ByteArray).size = 2 := rfl; have e1 : (⟨#[59]⟩ : ByteArray).size = 1 := rfl; omega)
                      have c15b1 : decide ((x7_1 ++ (⟨#[32, 9]⟩ : ByteArray)).size + t185.size ≤ 9223372036854775807) = true := decide_eq_true c15
                      try have c15b2 : (9223372036854775807 < (x7_1 ++ (⟨#[32, 9]⟩ : ByteArray)).size + t185.size) = False := eq_false (Nat.not_lt.2 c15)
                      by_cases c16 : ((x7_1 ++ (⟨#[32, 9]⟩ : ByteArray)) ++ t185).size + 2 ≤ 9223372036854775807
                      · rw [if_pos c16] at H
                        have c16b0 := eq_true c16
                        have c16n : (9223372036854775807 < x7_1.size + 2 + t185.size + 2) = False := eq_false (by have z := c16; simp only [ByteArray.size_append] at z; have e2 : (⟨#[32, 9]⟩ : ByteArray).size = 2 := rfl; have e3 : (⟨#[13, 10]⟩ : ByteArray).size = 2 := rfl; have e1 : (⟨#[59]⟩ : ByteArray).size = 1 := rfl; omega)
                        have c16b1 : decide (((x7_1 ++ (⟨#[32, 9]⟩ : ByteArray)) ++ t185).size + 2 ≤ 9223372036854775807) = true := decide_eq_true c16
                        try have c16b2 : (9223372036854775807 < ((x7_1 ++ (⟨#[32, 9]⟩ : ByteArray)) ++ t185).size + 2) = False := eq_false (Nat.not_lt.2 c16)
                        by_cases c17 : x8_1 < (l1.length : Int)
                        · rw [if_pos c17] at H
                          have c17b0 : decide (x8_1 < (l1.length : Int)) = true := decide_eq_true c17
                          clear c17
                          have H' := Aside0.mk H
                          clear H
                          have p184 : 0 ≤ (x8_1 : Int) := of_decide_eq_true (by first | (with_reducible assumption) | assumption)
                          have q184 : x8_1 < (l0.length : Int) := of_decide_eq_true (by first | (with_reducible assumption) | assumption)
                          obtain ⟨ad184, e184, hx184_0, hx184_1, hx184_2, hx184_3, hx184_4⟩ := at_T38 HR0.out x8_1 p184 q184
                          cases e184
                          replace hx184_0 := (HB.out.cell (World.block_lt_of_cell? w _ hx184_0)).trans hx184_0
                          replace hx184_1 := (HB.out.cell (World.block_lt_of_cell? w _ hx184_1)).trans hx184_1
                          replace hx184_2 := (HB.out.cell (World.block_lt_of_cell? w _ hx184_2)).trans hx184_2
                          replace hx184_3 := (HB.out.cell (World.block_lt_of_cell? w _ hx184_3)).trans hx184_3
                          replace hx184_4 := (HB.out.cell (World.block_lt_of_cell? w _ hx184_4)).trans hx184_4
                          replace p184 := eq_true p184
                          replace q184 := eq_true q184
                          go_wp2_with (first | ((with_reducible refine gate_callee (f := 21) rfl ?_); refine goesL_ (some 42) rfl rfl Tryd.func21 (by kernel_rfl) rfl #[.agg #[.int .i64 ((rd_T38 l0 x8_1).f0), .string ((rd_T38 l0 x8_1).f1), .bool ((rd_T38 l0 x8_1).f2), .int .i64 ((rd_T38 l0 x8_1).f3), .int .i64 ((rd_T38 l0 x8_1).f4)]] rfl (by (try simp only [List.map_toArray, List.map_cons, List.map_nil]); first | done | rfl | (simp only [List.length_drop, List.length_take]; rfl)) ?_; (with_reducible refine (lexis_Write.calls ((rd_T38 l0 x8_1).f0) ((rd_T38 l0 x8_1).f1) ((rd_T38 l0 x8_1).f2) ((rd_T38 l0 x8_1).f3) ((rd_T38 l0 x8_1).f4) t185 t186 _ A13.out).mono ?_); rintro e w18 ⟨rfl, hb⟩; refine ⟨_, rfl, ?_⟩; have n0_ := Aside0.mk (below_step (by repeat (first | (with_reducible first | exact HB.out | apply below_alloc | apply pw_below_drewN | apply below_drew1) | exact HB.out)) hb); clear HB; have HB := n0_; clear n0_; (try clear hb); (try clear hb2); (try clear hk); (try clear hi)))
                          go_loopg [11] kj7 (fun kq v11 w' => ∃ (x11_3 : Int), v11 = .int .i64 x11_3 ∧ Aside0 (tribunallaw06_LexisBlanks.l1 kq l0 l1 t182 t183 (((x7_1 ++ (⟨#[32, 9]⟩ : ByteArray)) ++ t185) ++ (⟨#[13, 10]⟩ : ByteArray)) x8_1 x11_3 = some r) ∧ Aside0 (kq ≤ kj7) ∧ Aside0 (Below w.heap.size w w'))
                          case atStart => exact ⟨(0), (by first | rfl | (simp; done) | (simp [*]; done)), H', ⟨Nat.le_refl _⟩, ⟨by repeat (first | (with_reducible first | exact HB.out | apply below_alloc | apply pw_below_drewN | apply below_drew1) | exact HB.out)⟩⟩
                          case round =>
                            clear H'
                            try clear c1
                            try clear p1
                            try clear q1
                            try clear hx1
                            try clear c2
                            try clear p2
                            try clear c4
                            try clear p6
                            try clear c8
                            try clear c9
                            try clear c9b0
                            try clear c10
                            try clear c11
                            try clear c11b0
                            try clear c12
                            try clear c12b0
                            try clear c14
                            try clear c14b0
                            try clear c14b1
                            try clear c14b2
                            try clear c15
                            try clear c15b0
                            try clear c15b1
                            try clear c15b2
                            try clear c16
                            try clear c16b0
                            try clear c16b1
                            try clear c16b2
                            try clear c17
                            try clear c17b0
                            try clear c18
                            try clear p18
                            try clear q18
                            try clear hx18
                            try clear hx184_0
                            try clear hx184_1
                            try clear hx184_2
                            try clear hx184_3
                            try clear hx184_4
                            try clear p184
                            try clear p2
                            try clear q184
                            obtain ⟨x11_3, rfl, HA, HK3, HB⟩ := hrel
                            cases gk with
                            | zero => exact absurd HA.out (by simp [tribunallaw06_LexisBlanks.l1])
                            | succ k3 =>
                              have H := HA.out
                              clear HA
                              simp only [tribunallaw06_LexisBlanks.l1] at H
                              by_cases c19 : 0 ≤ x8_1
                              · rw [if_pos c19] at H
                                have c19b0 : decide (0 ≤ x8_1) = true := decide_eq_true c19
                                clear c19
                                by_cases c20 : x8_1 < (l1.length : Int)
                                · rw [if_pos c20] at H
                                  have c20b0 : decide (x8_1 < (l1.length : Int)) = true := decide_eq_true c20
                                  clear c20
                                  by_cases c21 : x11_3 < ((rdOf ByteArray.empty l1 x8_1).size : Int)
                                  · rw [if_pos c21] at H
                                    have c21b0 : decide (x11_3 < ((rdOf ByteArray.empty l1 x8_1).size : Int)) = true := decide_eq_true c21
                                    clear c21
                                    by_cases c22 : 0 ≤ x11_3
                                    · rw [if_pos c22] at H
                                      have c22b0 : decide (0 ≤ x11_3) = true := decide_eq_true c22
                                      clear c22
                                      by_cases c24 : (bt (rdOf ByteArray.empty l1 x8_1) x11_3) = 10
                                      · rw [if_pos c24] at H
                                        have c24b0 : ((bt (rdOf ByteArray.empty l1 x8_1) x11_3) == 10) = true := beq_iff_eq.mpr c24
                                        have c24b1 : ((bt (rdOf ByteArray.empty l1 x8_1) x11_3) != 10) = false := bne_eq_false_iff_eq.mpr c24
                                        clear c24
                                        obtain rfl := Option.some.inj H
                                        have p187 : 0 ≤ (x8_1 : Int) := of_decide_eq_true (by first | (with_reducible assumption) | assumption)
                                        have q187 : x8_1 < (l1.length : Int) := of_decide_eq_true (by first | (with_reducible assumption) | assumption)
                                        obtain ⟨ad187, e187, hx187_0⟩ := Kd.at_string HR1.out x8_1 p187 q187
                                        cases e187
                                        replace hx187_0 := (HB.out.cell (World.block_lt_of_cell? w _ hx187_0)).trans hx187_0
                                        replace p187 := eq_true p187
                                        replace q187 := eq_true q187
                                        have p188 : 0 ≤ (x8_1 : Int) := of_decide_eq_true (by first | (with_reducible assumption) | assumption)
                                        have q188 : x8_1 < (l1.length : Int) := of_decide_eq_true (by first | (with_reducible assumption) | assumption)
                                        obtain ⟨ad188, e188, hx188_0⟩ := Kd.at_string HR1.out x8_1 p188 q188
                                        obtain rfl : ad187 = ad188 := (by injection e188)
                                        replace hx188_0 := (HB.out.cell (World.block_lt_of_cell? w _ hx188_0)).trans hx188_0
                                        replace p188 := eq_true p188
                                        replace q188 := eq_true q188
                                        have p23 : 0 ≤ (x11_3 : Int) := of_decide_eq_true (by first | (with_reducible assumption) | assumption)
                                        have q23 : x11_3 < ((rdOf ByteArray.empty l1 x8_1).size : Int) := of_decide_eq_true (by first | (with_reducible assumption) | assumption)
                                        have hx23 := bt_at (rdOf ByteArray.empty l1 x8_1) x11_3
                                        replace p23 := eq_true p23
                                        replace q23 := eq_true q23
                                        go_wp2
                                        go_ret
                                        exact ⟨by first | rfl | (simp [errW_none, errW_some] <;> rfl) | (simp [*, errW_none, errW_some] <;> rfl), by repeat (first | (with_reducible first | exact HB.out | apply below_alloc | apply pw_below_drewN | apply below_drew1) | exact HB.out)⟩
                                      · rw [if_neg c24] at H
                                        have c24b0 : ((bt (rdOf ByteArray.empty l1 x8_1) x11_3) == 10) = false := beq_eq_false_iff_ne.mpr c24
                                        have c24b1 : ((bt (rdOf ByteArray.empty l1 x8_1) x11_3) != 10) = true := bne_iff_ne.mpr c24
                                        have H' := Aside0.mk H
                                        clear H
                                        have p187 : 0 ≤ (x8_1 : Int) := of_decide_eq_true (by first | (with_reducible assumption) | assumption)
                                        have q187 : x8_1 < (l1.length : Int) := of_decide_eq_true (by first | (with_reducible assumption) | assumption)
                                        obtain ⟨ad187, e187, hx187_0⟩ := Kd.at_string HR1.out x8_1 p187 q187
                                        cases e187
                                        replace hx187_0 := (HB.out.cell (World.block_lt_of_cell? w _ hx187_0)).trans hx187_0
                                        replace p187 := eq_true p187
                                        replace q187 := eq_true q187
                                        have p188 : 0 ≤ (x8_1 : Int) := of_decide_eq_true (by first | (with_reducible assumption) | assumption)
                                        have q188 : x8_1 < (l1.length : Int) := of_decide_eq_true (by first | (with_reducible assumption) | assumption)
                                        obtain ⟨ad188, e188, hx188_0⟩ := Kd.at_string HR1.out x8_1 p188 q188
                                        obtain rfl : ad187 = ad188 := (by injection e188)
                                        replace hx188_0 := (HB.out.cell (World.block_lt_of_cell? w _ hx188_0)).trans hx188_0
                                        replace p188 := eq_true p188
                                        replace q188 := eq_true q188
                                        have p23 : 0 ≤ (x11_3 : Int) := of_decide_eq_true (by first | (with_reducible assumption) | assumption)
                                        have q23 : x11_3 < ((rdOf ByteArray.empty l1 x8_1).size : Int) := of_decide_eq_true (by first | (with_reducible assumption) | assumption)
                                        have hx23 := bt_at (rdOf ByteArray.empty l1 x8_1) x11_3
                                        replace p23 := eq_true p23
                                        replace q23 := eq_true q23
                                        go_wp2
                                        go_roundg k3
                                        case measure => have := HK1.out; have := HJ7.out; have := HK3.out; omega
                                        case rel => exact ⟨(wrap64 (x11_3 + 1)), (by first | rfl | (simp; done) | (simp [*]; done)), H', ⟨by have := HK1.out; have := HJ7.out; have := HK3.out; omega⟩, ⟨by repeat (first | (with_reducible first | exact HB.out | apply below_alloc | apply pw_below_drewN | apply below_drew1) | exact HB.out)⟩⟩
                                    · rw [if_neg c22] at H
                                      exact absurd H (by simp)
                                  · rw [if_neg c21] at H
                                    have c21b0 : decide (x11_3 < ((rdOf ByteArray.empty l1 x8_1).size : Int)) = false := decide_eq_false c21
                                    clear c21
                                    by_cases c25 : (((x7_1 ++ (⟨#[32, 9]⟩ : ByteArray)) ++ t185) ++ (⟨#[13, 10]⟩ : ByteArray)).size + 1 ≤ 9223372036854775807
                                    · rw [if_pos c25] at H
                                      have c25b0 := eq_true c25
                                      have c25n : (9223372036854775807 < x7_1.size + 2 + t185.size + 2 + 1) = False := eq_false (by have z := c25; simp only [ByteArray.size_append] at z; have e2 : (⟨#[32, 9]⟩ : ByteArray).size = 2 := rfl; have e3 : (⟨#[13, 10]⟩ : ByteArray).size = 2 := rfl; have e1 : (⟨#[59]⟩ : ByteArray).size = 1 := rfl; omega)
                                      have c25b1 : decide ((((x7_1 ++ (⟨#[32, 9]⟩ : ByteArray)) ++ t185) ++ (⟨#[13, 10]⟩ : ByteArray)).size + 1 ≤ 9223372036854775807) = true := decide_eq_true c25
                                      try have c25b2 : (9223372036854775807 < (((x7_1 ++ (⟨#[32, 9]⟩ : ByteArray)) ++ t185) ++ (⟨#[13, 10]⟩ : ByteArray)).size + 1) = False := eq_false (Nat.not_lt.2 c25)
                                      by_cases c26 : ((((x7_1 ++ (⟨#[32, 9]⟩ : ByteArray)) ++ t185) ++ (⟨#[13, 10]⟩ : ByteArray)) ++ (⟨#[59]⟩ : ByteArray)).size + (rdOf ByteArray.empty l1 x8_1).size ≤ 9223372036854775807
                                      · rw [if_pos c26] at H
                                        have c26b0 := eq_true c26
                                        have c26n : (9223372036854775807 < x7_1.size + 2 + t185.size + 2 + 1 + (rdOf ByteArray.empty l1 x8_1).size) = False := eq_false (by have z := c26; simp only [ByteArray.size_append] at z; have e2 : (⟨#[32, 9]⟩ : ByteArray).size = 2 := rfl; have e3 : (⟨#[13, 10]⟩ : ByteArray).size = 2 := rfl; have e1 : (⟨#[59]⟩ : ByteArray).size = 1 := rfl; omega)
                                        have c26b1 : decide (((((x7_1 ++ (⟨#[32, 9]⟩ : ByteArray)) ++ t185) ++ (⟨#[13, 10]⟩ : ByteArray)) ++ (⟨#[59]⟩ : ByteArray)).size + (rdOf ByteArray.empty l1 x8_1).size ≤ 9223372036854775807) = true := decide_eq_true c26
                                        try have c26b2 : (9223372036854775807 < ((((x7_1 ++ (⟨#[32, 9]⟩ : ByteArray)) ++ t185) ++ (⟨#[13, 10]⟩ : ByteArray)) ++ (⟨#[59]⟩ : ByteArray)).size + (rdOf ByteArray.empty l1 x8_1).size) = False := eq_false (Nat.not_lt.2 c26)
                                        by_cases c27 : (((((x7_1 ++ (⟨#[32, 9]⟩ : ByteArray)) ++ t185) ++ (⟨#[13, 10]⟩ : ByteArray)) ++ (⟨#[59]⟩ : ByteArray)) ++ (rdOf ByteArray.empty l1 x8_1)).size + 1 ≤ 9223372036854775807
                                        · rw [if_pos c27] at H
                                          have c27b0 := eq_true c27
                                          have c27n : (9223372036854775807 < x7_1.size + 2 + t185.size + 2 + 1 + (rdOf ByteArray.empty l1 x8_1).size + 1) = False := eq_false (by have z := c27; simp only [ByteArray.size_append] at z; have e2 : (⟨#[32, 9]⟩ : ByteArray).size = 2 := rfl; have e3 : (⟨#[13, 10]⟩ : ByteArray).size = 2 := rfl; have e1 : (⟨#[59]⟩ : ByteArray).size = 1 := rfl; omega)
                                          have c27b1 : decide ((((((x7_1 ++ (⟨#[32, 9]⟩ : ByteArray)) ++ t185) ++ (⟨#[13, 10]⟩ : ByteArray)) ++ (⟨#[59]⟩ : ByteArray)) ++ (rdOf ByteArray.empty l1 x8_1)).size + 1 ≤ 9223372036854775807) = true := decide_eq_true c27
                                          try have c27b2 : (9223372036854775807 < (((((x7_1 ++ (⟨#[32, 9]⟩ : ByteArray)) ++ t185) ++ (⟨#[13, 10]⟩ : ByteArray)) ++ (⟨#[59]⟩ : ByteArray)) ++ (rdOf ByteArray.empty l1 x8_1)).size + 1) = False := eq_false (Nat.not_lt.2 c27)
                                          have H' := Aside0.mk H
                                          clear H
                                          have p187 : 0 ≤ (x8_1 : Int) := of_decide_eq_true (by first | (with_reducible assumption) | assumption)
                                          have q187 : x8_1 < (l1.length : Int) := of_decide_eq_true (by first | (with_reducible assumption) | assumption)
                                          obtain ⟨ad187, e187, hx187_0⟩ := Kd.at_string HR1.out x8_1 p187 q187
                                          cases e187
                                          replace hx187_0 := (HB.out.cell (World.block_lt_of_cell? w _ hx187_0)).trans hx187_0
                                          replace p187 := eq_true p187
                                          replace q187 := eq_true q187
                                          have p189 : 0 ≤ (x8_1 : Int) := of_decide_eq_true (by first | (with_reducible assumption) | assumption)
                                          have q189 : x8_1 < (l1.length : Int) := of_decide_eq_true (by first | (with_reducible assumption) | assumption)
                                          obtain ⟨ad189, e189, hx189_0⟩ := Kd.at_string HR1.out x8_1 p189 q189
                                          obtain rfl : ad187 = ad189 := (by injection e189)
                                          replace hx189_0 := (HB.out.cell (World.block_lt_of_cell? w _ hx189_0)).trans hx189_0
                                          replace p189 := eq_true p189
                                          replace q189 := eq_true q189
                                          go_wp2
                                          go_roundg k3
                                          case measure => have := HK1.out; have := HJ7.out; have := HK3.out; omega
                                          case rel => exact ⟨((((((x7_1 ++ (⟨#[32, 9]⟩ : ByteArray)) ++ t185) ++ (⟨#[13, 10]⟩ : ByteArray)) ++ (⟨#[59]⟩ : ByteArray)) ++ (rdOf ByteArray.empty l1 x8_1)) ++ (⟨#[10]⟩ : ByteArray)), (wrap64 (x8_1 + 1)), (by first | rfl | (simp; done) | (simp [*]; done)), (by first | rfl | (simp; done) | (simp [*]; done)), H', ⟨by have := HK1.out; have := HJ7.out; have := HK3.out; omega⟩, ⟨by repeat (first | (with_reducible first | exact HB.out | apply below_alloc | apply pw_below_drewN | apply below_drew1) | exact HB.out)⟩⟩
                                        · rw [if_neg c27] at H
                                          exact absurd H (by simp)
                                      · rw [if_neg c26] at H
                                        exact absurd H (by simp)
                                    · rw [if_neg c25] at H
                                      exact absurd H (by simp)
                                · rw [if_neg c20] at H
                                  exact absurd H (by simp)
                              · rw [if_neg c19] at H
                                exact absurd H (by simp)
                        · rw [if_neg c17] at H
                          have c17b0 : decide (x8_1 < (l1.length : Int)) = false := decide_eq_false c17
                          clear c17
                          have H' := Aside0.mk H
                          clear H
                          have p184 : 0 ≤ (x8_1 : Int) := of_decide_eq_true (by first | (with_reducible assumption) | assumption)
                          have q184 : x8_1 < (l0.length : Int) := of_decide_eq_true (by first | (with_reducible assumption) | assumption)
                          obtain ⟨ad184, e184, hx184_0, hx184_1, hx184_2, hx184_3, hx184_4⟩ := at_T38 HR0.out x8_1 p184 q184
                          cases e184
                          replace hx184_0 := (HB.out.cell (World.block_lt_of_cell? w _ hx184_0)).trans hx184_0
                          replace hx184_1 := (HB.out.cell (World.block_lt_of_cell? w _ hx184_1)).trans hx184_1
                          replace hx184_2 := (HB.out.cell (World.block_lt_of_cell? w _ hx184_2)).trans hx184_2
                          replace hx184_3 := (HB.out.cell (World.block_lt_of_cell? w _ hx184_3)).trans hx184_3
                          replace hx184_4 := (HB.out.cell (World.block_lt_of_cell? w _ hx184_4)).trans hx184_4
                          replace p184 := eq_true p184
                          replace q184 := eq_true q184
                          go_wp2_with (first | ((with_reducible refine gate_callee (f := 21) rfl ?_); refine goesL_ (some 42) rfl rfl Tryd.func21 (by kernel_rfl) rfl #[.agg #[.int .i64 ((rd_T38 l0 x8_1).f0), .string ((rd_T38 l0 x8_1).f1), .bool ((rd_T38 l0 x8_1).f2), .int .i64 ((rd_T38 l0 x8_1).f3), .int .i64 ((rd_T38 l0 x8_1).f4)]] rfl (by (try simp only [List.map_toArray, List.map_cons, List.map_nil]); first | done | rfl | (simp only [List.length_drop, List.length_take]; rfl)) ?_; (with_reducible refine (lexis_Write.calls ((rd_T38 l0 x8_1).f0) ((rd_T38 l0 x8_1).f1) ((rd_T38 l0 x8_1).f2) ((rd_T38 l0 x8_1).f3) ((rd_T38 l0 x8_1).f4) t185 t186 _ A13.out).mono ?_); rintro e w28 ⟨rfl, hb⟩; refine ⟨_, rfl, ?_⟩; have n0_ := Aside0.mk (below_step (by repeat (first | (with_reducible first | exact HB.out | apply below_alloc | apply pw_below_drewN | apply below_drew1) | exact HB.out)) hb); clear HB; have HB := n0_; clear n0_; (try clear hb); (try clear hb2); (try clear hk); (try clear hi)))
                          go_roundg kj7
                          case measure => have := HK1.out; have := HJ7.out; omega
                          case rel => exact ⟨(((x7_1 ++ (⟨#[32, 9]⟩ : ByteArray)) ++ t185) ++ (⟨#[13, 10]⟩ : ByteArray)), (wrap64 (x8_1 + 1)), (by first | rfl | (simp; done) | (simp [*]; done)), (by first | rfl | (simp; done) | (simp [*]; done)), H', ⟨by have := HK1.out; have := HJ7.out; omega⟩, ⟨by repeat (first | (with_reducible first | exact HB.out | apply below_alloc | apply pw_below_drewN | apply below_drew1) | exact HB.out)⟩⟩
                      · rw [if_neg c16] at H
                        exact absurd H (by simp)
                    · rw [if_neg c15] at H
                      exact absurd H (by simp)
                  · rw [if_neg c14] at H
                    exact absurd H (by simp)
                · rw [if_neg c12] at H
                  exact absurd H (by simp)
              · rw [if_neg c11] at H
                exact absurd H (by simp)
            · replace c10 := Bool.eq_false_iff.mpr c10
              subst c10
              have H1 : (if t183 = 0 then (tribunallaw06_LexisBlanks.j3 kj7 t182 x7_1 (decide ((x7_1.size : Int) > 1048576))) else (tribunallaw06_LexisBlanks.j3 kj7 t182 x7_1 true)) = some r := by rw [if_neg (show ¬ (false = true) by decide)] at H; exact H
              clear H
              have H := H1
              clear H1
              have HC29 := Aside0.mk H
              clear H
              go_upto_region 17 with (fail)
              go_cut [84] (fun v84 wc => ∃ (kq : Nat) (x84_28 : Bool), v84 = .bool x84_28 ∧ Aside0 (tribunallaw06_LexisBlanks.j3 kq t182 x7_1 x84_28 = some r) ∧ Aside0 (kq ≤ kj7) ∧ Aside0 (Below w.heap.size w wc))
              case first =>
                have H := HC29.out
                clear HC29
                by_cases c30 : t183 = 0
                · rw [if_pos c30] at H
                  have c30b0 : (t183 == 0) = true := beq_iff_eq.mpr c30
                  have c30b1 : (t183 != 0) = false := bne_eq_false_iff_eq.mpr c30
                  clear c30
                  (first | rw [c30b0] | (simp only [i64_w, i32_w]; rw [c30b0]) | skip)
                  have H' := Aside0.mk H
                  clear H
                  go_wp2
                  go_meet
                  case rel => exact ⟨_, (decide ((x7_1.size : Int) > 1048576)), (by first | rfl | (simp; done) | (simp [*]; done)), H', ⟨by have := HK1.out; have := HJ7.out; first | omega | exact Nat.le_refl _⟩, ⟨by repeat (first | (with_reducible first | exact HB.out | apply below_alloc | apply pw_below_drewN | apply below_drew1) | exact HB.out)⟩⟩
                · rw [if_neg c30] at H
                  have c30b0 : (t183 == 0) = false := beq_eq_false_iff_ne.mpr c30
                  have c30b1 : (t183 != 0) = true := bne_iff_ne.mpr c30
                  (first | rw [c30b0] | (simp only [i64_w, i32_w]; rw [c30b0]) | skip)
                  have H' := Aside0.mk H
                  clear H
                  go_wp2
                  go_meet
                  case rel => exact ⟨_, (true), (by first | rfl | (simp; done) | (simp [*]; done)), H', ⟨by have := HK1.out; have := HJ7.out; first | omega | exact Nat.le_refl _⟩, ⟨by repeat (first | (with_reducible first | exact HB.out | apply below_alloc | apply pw_below_drewN | apply below_drew1) | exact HB.out)⟩⟩
              case rest =>
                clear HC29
                try clear c1
                try clear p1
                try clear q1
                try clear hx1
                try clear c2
                try clear p2
                try clear q2
                try clear hx2
                try clear c3
                try clear c4
                try clear p6
                try clear c8
                try clear c9
                try clear c9b0
                try clear c10
                try clear c11
                try clear c11b0
                try clear c12
                try clear c12b0
                try clear c14
                try clear c14b0
                try clear c14b1
                try clear c14b2
                try clear c15
                try clear c15b0
                try clear c15b1
                try clear c15b2
                try clear c16
                try clear c16b0
                try clear c16b1
                try clear c16b2
                try clear c17
                try clear c17b0
                try clear c18
                try clear p18
                try clear q18
                try clear hx18
                try clear c19
                try clear c19b0
                try clear c20
                try clear c20b0
                try clear c21
                try clear c21b0
                try clear c22
                try clear c22b0
                try clear p23
                try clear q23
                try clear hx23
                try clear c24
                try clear c24b0
                try clear c24b1
                try clear c25
                try clear c25b0
                try clear c25b1
                try clear c25b2
                try clear c26
                try clear c26b0
                try clear c26b1
                try clear c26b2
                try clear c27
                try clear c27b0
                try clear c27b1
                try clear c27b2
                try clear c30
                try clear c30b0
                try clear c30b1
                try clear hx184_0
                try clear hx184_1
                try clear hx184_2
                try clear hx184_3
                try clear hx184_4
                try clear hx187_0
                try clear hx188_0
                try clear hx189_0
                try clear p1
                try clear p18
                try clear p184
                try clear p187
                try clear p188
                try clear p189
                try clear p2
                try clear p23
                try clear p6
                try clear q1
                try clear q18
                try clear q184
                try clear q187
                try clear q188
                try clear q189
                try clear q23
                obtain ⟨kq, x84_28, rfl, HA, HJ28, HB⟩ := hcut
                cases kq with
                | zero => exact absurd HA.out (by simp [tribunallaw06_LexisBlanks.j3])
                | succ kj28 =>
                  have H := HA.out
                  clear HA
                  simp only [tribunallaw06_LexisBlanks.j3] at H
                  by_cases c31 : x84_28 = true
                  · subst c31
                    have H1 : (some true) = some r := by rw [if_pos rfl] at H; exact H
                    clear H
                    have H := H1
                    clear H1
                    obtain rfl := Option.some.inj H
                    go_wp2
                    go_ret
                    exact ⟨by first | rfl | (simp [errW_none, errW_some] <;> rfl) | (simp [*, errW_none, errW_some] <;> rfl), by repeat (first | (with_reducible first | exact HB.out | apply below_alloc | apply pw_below_drewN | apply below_drew1) | exact HB.out)⟩
                  · replace c31 := Bool.eq_false_iff.mpr c31
                    subst c31
                    have H1 : ((lexis_Scan.f t182).bind fun bt190 => ((lexis_Scan.f x7_1).bind fun bt196 => (if bt190.2.2.2 = 0 then (if bt196.2.2.2 = 0 then ((tribunalref06_Same.f kj28 bt190.1 bt196.1 false).bind fun t202 => (some t202)) else (some false)) else (some false)))) = some r := by rw [if_neg (show ¬ (false = true) by decide)] at H; exact H
                    clear H
                    have H := H1
                    clear H1
                    replace H := Option.bind_eq_some_iff.mp H
                    obtain ⟨⟨t190, t191, t192, t193⟩, A320, H⟩ := H
                    replace H : ((lexis_Scan.f x7_1).bind fun bt196 => (if t193 = 0 then (if bt196.2.2.2 = 0 then ((tribunalref06_Same.f kj28 t190 bt196.1 false).bind fun t202 => (some t202)) else (some false)) else (some false))) = some r := H
                    have A32 := Aside0.mk A320
                    clear A320
                    replace H := Option.bind_eq_some_iff.mp H
                    obtain ⟨⟨t196, t197, t198, t199⟩, A330, H⟩ := H
                    replace H : (if t193 = 0 then (if t199 = 0 then ((tribunalref06_Same.f kj28 t190 t196 false).bind fun t202 => (some t202)) else (some false)) else (some false)) = some r := H
                    have A33 := Aside0.mk A330
                    clear A330
                    by_cases c34 : t193 = 0
                    · rw [if_pos c34] at H
                      have c34b0 : (t193 == 0) = true := beq_iff_eq.mpr c34
                      have c34b1 : (t193 != 0) = false := bne_eq_false_iff_eq.mpr c34
                      clear c34
                      by_cases c35 : t199 = 0
                      · rw [if_pos c35] at H
                        have c35b0 : (t199 == 0) = true := beq_iff_eq.mpr c35
                        have c35b1 : (t199 != 0) = false := bne_eq_false_iff_eq.mpr c35
                        clear c35
                        replace H := Option.bind_eq_some_iff.mp H
                        obtain ⟨t202, A360, H⟩ := H
                        replace H : (some t202) = some r := H
                        have A36 := Aside0.mk A360
                        clear A360
                        obtain rfl := Option.some.inj H
                        go_wp2_with (first | ((with_reducible refine gate_callee (f := 15) rfl ?_); refine goesL_ (some 87) rfl rfl Tryd.func15 (by kernel_rfl) rfl #[.string t182] rfl (by (try simp only [List.map_toArray, List.map_cons, List.map_nil]); first | done | rfl | (simp only [List.length_drop, List.length_take]; rfl)) ?_; (with_reducible refine (lexis_Scan.calls t182 t190 t191 t192 t193 _ A32.out).mono ?_); rintro e w37 ⟨v194, rfl, ho0, hb⟩; refine ⟨_, rfl, ?_⟩; have n0_ := Aside0.mk (Kd.R_lower ho0 (below_size (by repeat (first | (with_reducible first | exact HB.out | apply below_alloc | apply pw_below_drewN | apply below_drew1) | exact HB.out)))); have n1_ := Aside0.mk (below_step (by repeat (first | (with_reducible first | exact HB.out | apply below_alloc | apply pw_below_drewN | apply below_drew1) | exact HB.out)) hb); clear HB; have HO195 := n0_; have HB := n1_; clear n0_ n1_; (try clear hb); (try clear hb2); (try clear hk); (try clear hi); (try clear ho0)) | ((with_reducible refine gate_callee (f := 15) rfl ?_); refine goesL_ (some 94) rfl rfl Tryd.func15 (by kernel_rfl) rfl #[.string x7_1] rfl (by (try simp only [List.map_toArray, List.map_cons, List.map_nil]); first | done | rfl | (simp only [List.length_drop, List.length_take]; rfl)) ?_; (with_reducible refine (lexis_Scan.calls x7_1 t196 t197 t198 t199 _ A33.out).mono ?_); rintro e w38 ⟨v200, rfl, ho0, hb⟩; refine ⟨_, rfl, ?_⟩; have n0_ := Aside0.mk (Kd.R_elder' (by (with_reducible repeat (first | apply Kd.R_alloc | apply Kd.R_drewN | apply Kd.R_drew)); exact HO195.out) (Kd.R_base ho0) hb); have n1_ := Aside0.mk (Kd.R_lower (Kd.R_new' ho0 (Kd.R_lt (by (with_reducible repeat (first | apply Kd.R_alloc | apply Kd.R_drewN | apply Kd.R_drew)); exact HO195.out))) (below_size (by repeat (first | (with_reducible first | exact HB.out | apply below_alloc | apply pw_below_drewN | apply below_drew1) | exact HB.out)))); have n2_ := Aside0.mk (below_step (by repeat (first | (with_reducible first | exact HB.out | apply below_alloc | apply pw_below_drewN | apply below_drew1) | exact HB.out)) hb); clear HO195; clear HB; have HO195 := n0_; have HO201 := n1_; have HB := n2_; clear n0_ n1_ n2_; (try clear hb); (try clear hb2); (try clear hk); (try clear hi); (try clear ho0); obtain ⟨Ao39, co39, eo39⟩ := Kd.R_slice HO195.out; subst eo39; obtain ⟨Ao40, co40, eo40⟩ := Kd.R_slice HO201.out; subst eo40) | (go_at_call 17; (with_reducible refine (tribunalref06_Same.calls kj28 _ _ t190 _ _ t196 false t202 _ ?side1 ?side2 ?side3 ?side4 A36.out).mono ?_); (case side1 => repeat (first | exact (Kd.R_reads' HO195.out).2.2 | (with_reducible refine Kd.C_alloc ?_ _) | (with_reducible refine Kd.C_drewN ?_ _) | (with_reducible refine Kd.C_drew ?_))); (case side2 => exact (Kd.R_reads' HO195.out).2.1); (case side3 => repeat (first | exact (Kd.R_reads' HO201.out).2.2 | (with_reducible refine Kd.C_alloc ?_ _) | (with_reducible refine Kd.C_drewN ?_ _) | (with_reducible refine Kd.C_drew ?_))); (case side4 => exact (Kd.R_reads' HO201.out).2.1); rintro e w' ⟨rfl, ⟨nd, rfl⟩⟩))
                        go_ret
                        exact ⟨by first | rfl | (simp [errW_none, errW_some] <;> rfl) | (simp [*, errW_none, errW_some] <;> rfl), by repeat (first | (with_reducible first | exact HB.out | apply below_alloc | apply pw_below_drewN | apply below_drew1) | exact HB.out)⟩
                      · rw [if_neg c35] at H
                        have c35b0 : (t199 == 0) = false := beq_eq_false_iff_ne.mpr c35
                        have c35b1 : (t199 != 0) = true := bne_iff_ne.mpr c35
                        obtain rfl := Option.some.inj H
                        go_wp2_with (first | ((with_reducible refine gate_callee (f := 15) rfl ?_); refine goesL_ (some 87) rfl rfl Tryd.func15 (by kernel_rfl) rfl #[.string t182] rfl (by (try simp only [List.map_toArray, List.map_cons, List.map_nil]); first | done | rfl | (simp only [List.length_drop, List.length_take]; rfl)) ?_; (with_reducible refine (lexis_Scan.calls t182 t190 t191 t192 t193 _ A32.out).mono ?_); rintro e w41 ⟨v194, rfl, ho0, hb⟩; refine ⟨_, rfl, ?_⟩; have n0_ := Aside0.mk (Kd.R_lower ho0 (below_size (by repeat (first | (with_reducible first | exact HB.out | apply below_alloc | apply pw_below_drewN | apply below_drew1) | exact HB.out)))); have n1_ := Aside0.mk (below_step (by repeat (first | (with_reducible first | exact HB.out | apply below_alloc | apply pw_below_drewN | apply below_drew1) | exact HB.out)) hb); clear HB; have HO195 := n0_; have HB := n1_; clear n0_ n1_; (try clear hb); (try clear hb2); (try clear hk); (try clear hi); (try clear ho0)) | ((with_reducible refine gate_callee (f := 15) rfl ?_); refine goesL_ (some 94) rfl rfl Tryd.func15 (by kernel_rfl) rfl #[.string x7_1] rfl (by (try simp only [List.map_toArray, List.map_cons, List.map_nil]); first | done | rfl | (simp only [List.length_drop, List.length_take]; rfl)) ?_; (with_reducible refine (lexis_Scan.calls x7_1 t196 t197 t198 t199 _ A33.out).mono ?_); rintro e w42 ⟨v200, rfl, ho0, hb⟩; refine ⟨_, rfl, ?_⟩; have n0_ := Aside0.mk (Kd.R_elder' (by (with_reducible repeat (first | apply Kd.R_alloc | apply Kd.R_drewN | apply Kd.R_drew)); exact HO195.out) (Kd.R_base ho0) hb); have n1_ := Aside0.mk (Kd.R_lower (Kd.R_new' ho0 (Kd.R_lt (by (with_reducible repeat (first | apply Kd.R_alloc | apply Kd.R_drewN | apply Kd.R_drew)); exact HO195.out))) (below_size (by repeat (first | (with_reducible first | exact HB.out | apply below_alloc | apply pw_below_drewN | apply below_drew1) | exact HB.out)))); have n2_ := Aside0.mk (below_step (by repeat (first | (with_reducible first | exact HB.out | apply below_alloc | apply pw_below_drewN | apply below_drew1) | exact HB.out)) hb); clear HO195; clear HB; have HO195 := n0_; have HO201 := n1_; have HB := n2_; clear n0_ n1_ n2_; (try clear hb); (try clear hb2); (try clear hk); (try clear hi); (try clear ho0)))
                        go_ret
                        exact ⟨by first | rfl | (simp [errW_none, errW_some] <;> rfl) | (simp [*, errW_none, errW_some] <;> rfl), by repeat (first | (with_reducible first | exact HB.out | apply below_alloc | apply pw_below_drewN | apply below_drew1) | exact HB.out)⟩
                    · rw [if_neg c34] at H
                      have c34b0 : (t193 == 0) = false := beq_eq_false_iff_ne.mpr c34
                      have c34b1 : (t193 != 0) = true := bne_iff_ne.mpr c34
                      obtain rfl := Option.some.inj H
                      go_wp2_with (first | ((with_reducible refine gate_callee (f := 15) rfl ?_); refine goesL_ (some 87) rfl rfl Tryd.func15 (by kernel_rfl) rfl #[.string t182] rfl (by (try simp only [List.map_toArray, List.map_cons, List.map_nil]); first | done | rfl | (simp only [List.length_drop, List.length_take]; rfl)) ?_; (with_reducible refine (lexis_Scan.calls t182 t190 t191 t192 t193 _ A32.out).mono ?_); rintro e w43 ⟨v194, rfl, ho0, hb⟩; refine ⟨_, rfl, ?_⟩; have n0_ := Aside0.mk (Kd.R_lower ho0 (below_size (by repeat (first | (with_reducible first | exact HB.out | apply below_alloc | apply pw_below_drewN | apply below_drew1) | exact HB.out)))); have n1_ := Aside0.mk (below_step (by repeat (first | (with_reducible first | exact HB.out | apply below_alloc | apply pw_below_drewN | apply below_drew1) | exact HB.out)) hb); clear HB; have HO195 := n0_; have HB := n1_; clear n0_ n1_; (try clear hb); (try clear hb2); (try clear hk); (try clear hi); (try clear ho0)) | ((with_reducible refine gate_callee (f := 15) rfl ?_); refine goesL_ (some 94) rfl rfl Tryd.func15 (by kernel_rfl) rfl #[.string x7_1] rfl (by (try simp only [List.map_toArray, List.map_cons, List.map_nil]); first | done | rfl | (simp only [List.length_drop, List.length_take]; rfl)) ?_; (with_reducible refine (lexis_Scan.calls x7_1 t196 t197 t198 t199 _ A33.out).mono ?_); rintro e w44 ⟨v200, rfl, ho0, hb⟩; refine ⟨_, rfl, ?_⟩; have n0_ := Aside0.mk (Kd.R_elder' (by (with_reducible repeat (first | apply Kd.R_alloc | apply Kd.R_drewN | apply Kd.R_drew)); exact HO195.out) (Kd.R_base ho0) hb); have n1_ := Aside0.mk (Kd.R_lower (Kd.R_new' ho0 (Kd.R_lt (by (with_reducible repeat (first | apply Kd.R_alloc | apply Kd.R_drewN | apply Kd.R_drew)); exact HO195.out))) (below_size (by repeat (first | (with_reducible first | exact HB.out | apply below_alloc | apply pw_below_drewN | apply below_drew1) | exact HB.out)))); have n2_ := Aside0.mk (below_step (by repeat (first | (with_reducible first | exact HB.out | apply below_alloc | apply pw_below_drewN | apply below_drew1) | exact HB.out)) hb); clear HO195; clear HB; have HO195 := n0_; have HO201 := n1_; have HB := n2_; clear n0_ n1_ n2_; (try clear hb); (try clear hb2); (try clear hk); (try clear hi); (try clear ho0)))
                      go_ret
                      exact ⟨by first | rfl | (simp [errW_none, errW_some] <;> rfl) | (simp [*, errW_none, errW_some] <;> rfl), by repeat (first | (with_reducible first | exact HB.out | apply below_alloc | apply pw_below_drewN | apply below_drew1) | exact HB.out)⟩
  · replace c4 := Bool.eq_false_iff.mpr c4
    subst c4
    have H1 : (some false) = some r := by rw [if_neg (show ¬ (false = true) by decide)] at H; exact H
    clear H
    have H := H1
    clear H1
    obtain rfl := Option.some.inj H
    go_enter Tryd.func8, Tryd.ntmps8
    go_wp2_with (first | ((with_reducible refine gate_callee (f := 18) rfl ?_); refine goesL_ (some 20) rfl rfl Tryd.func18 (by kernel_rfl) rfl #[] rfl (by (try simp only [List.map_toArray, List.map_cons, List.map_nil]); first | done | rfl | (simp only [List.length_drop, List.length_take]; rfl)) ?_; (with_reducible refine (tribunallaw06_awake.calls  false _ A3.out).mono ?_); rintro e w45 ⟨rfl, hb⟩; refine ⟨_, rfl, ?_⟩; have n0_ := Aside0.mk (below_step (by repeat (first | (with_reducible first | exact HB.out | apply below_alloc | apply pw_below_drewN | apply below_drew1) | exact HB.out)) hb); clear HB; have HB := n0_; clear n0_; (try clear hb); (try clear hb2); (try clear hk); (try clear hi)))
    go_ret
    exact ⟨by first | rfl | (simp [errW_none, errW_some] <;> rfl) | (simp [*, errW_none, errW_some] <;> rfl), by repeat (first | (with_reducible first | exact HB.out | apply below_alloc | apply pw_below_drewN | apply below_drew1) | exact HB.out)⟩

end Go.Proofs.YthklnopfgoekeaaDoor.X
