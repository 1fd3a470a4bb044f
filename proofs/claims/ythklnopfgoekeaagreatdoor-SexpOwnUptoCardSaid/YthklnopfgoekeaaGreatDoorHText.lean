/- sexp.Text: an s-expression as it is written. -/
import Derived.Test.YthklnopfgoekeaaGreatDoorX0
import Derived.Test.YthklnopfgoekeaaGreatDoorHWrite
namespace Go.Proofs.YthklnopfgoekeaaGreatDoor.X
section
open Go.RowKit Go.Proofs.YthklnopfgoekeaaGreatDoorW.PrintWords Go.Proofs.YthklnopfgoekeaaGreatDoorW.PrintLast Go.Proofs.YthklnopfgoekeaaGreatDoorW.PrintMore
attribute [local go_sem] max2_int min2_int max_two min_two max_three min_three max_four min_four   -- for this text's walks alone
set_option linter.unusedVariables false
set_option linter.unusedSimpArgs false

/-! ### sexp_paren: function 86 -/
def sexp_paren.f (a0_0 : Int) (a0_1 : ByteArray) (a0_2 : Bool) (a0_3 : Int) (a0_4 : Int) : Option (Bool) := if a0_0 = 1 then (some true) else (some (a0_0 == 2))
set_option maxHeartbeats 8000000 in
set_option maxRecDepth 100000 in
theorem sexp_paren.calls (a0_0 : Int) (a0_1 : ByteArray) (a0_2 : Bool) (a0_3 : Int) (a0_4 : Int) (r : Bool) (w : World) (h : sexp_paren.f a0_0 a0_1 a0_2 a0_3 a0_4 = some r) :
 Calls Tryz.prog 62 #[.agg #[.int .i64 a0_0, .string a0_1, .bool a0_2, .int .i64 a0_3, .int .i64 a0_4]] w fun e w' => e = .returned (.bool r) ∧ Below w.heap.size w w' := by
 have hu38 := Tryz.underlying37
 have HB := Aside0.mk (Below.refl w.heap.size w)
 have H : (if a0_0 = 1 then (some true) else (some (a0_0 == 2))) = some r := h
 clear h
 by_cases c2 : a0_0 = 1
 ·rw [if_pos c2] at H
  have c2b0 : (a0_0 == 1) = true := beq_iff_eq.mpr c2
  have c2b1 : (a0_0 != 1) = false := bne_eq_false_iff_eq.mpr c2
  clear c2
  obtain rfl := Option.some.inj H
  go_enter Tryz.func62, Tryz.ntmps62
  go_wp2_with ((((with_reducible refine gate_dst (N := 1) rfl ?_); refine box_event ?hg (N := 1) ?hd (cs := #[.int .i64 a0_0, .string a0_1, .bool a0_2, .int .i64 a0_3, .int .i64 a0_4]) (t := 37) ?hr ?_; (case hd => rfl); (case hg => rfl); (case hr => ((go_simp; done))); intro gb247 hg w3 hbox hb; have n0_ := Aside0.mk (below_step (by exact HB.out) hb); have n1_ := Aside0.mk (hbox); have n2_ := Aside0.mk ((by rw [hg]; exact (below_size (by exact HB.out)) : w.heap.size ≤ gb247)); have n3_ := Aside0.mk ((by rw [hg]; exact (below_size (by exact HB.out)) : w.heap.size ≤ gb247)); clear HB; have HB := n0_; have BK247 := n1_; have GW247 := n2_; have GE247 := n3_; clear n0_ n1_ n2_ n3_; clear hb hbox hg; have hcz4_0 : w3.cell? ⟨gb247, 0, none⟩ = some (.int .i64 a0_0) := (blk_cell BK247.out 0).trans rfl; have hcz4_1 : w3.cell? ⟨gb247, 1, none⟩ = some (.string a0_1) := (blk_cell BK247.out 1).trans rfl; have hcz4_2 : w3.cell? ⟨gb247, 2, none⟩ = some (.bool a0_2) := (blk_cell BK247.out 2).trans rfl; have hcz4_3 : w3.cell? ⟨gb247, 3, none⟩ = some (.int .i64 a0_3) := (blk_cell BK247.out 3).trans rfl; have hcz4_4 : w3.cell? ⟨gb247, 4, none⟩ = some (.int .i64 a0_4) := (blk_cell BK247.out 4).trans rfl; have hfz4_0 := blk_frozen BK247.out 0; have hfz4_1 := blk_frozen BK247.out 1; have hfz4_2 := blk_frozen BK247.out 2; have hfz4_3 := blk_frozen BK247.out 3; have hfz4_4 := blk_frozen BK247.out 4)))
  go_ret
  exact ⟨by rfl, by exact HB.out⟩
 ·rw [if_neg c2] at H
  have c2b0 : (a0_0 == 1) = false := beq_eq_false_iff_ne.mpr c2
  have c2b1 : (a0_0 != 1) = true := bne_iff_ne.mpr c2
  obtain rfl := Option.some.inj H
  go_enter Tryz.func62, Tryz.ntmps62
  go_wp2_with ((((with_reducible refine gate_dst (N := 1) rfl ?_); refine box_event ?hg (N := 1) ?hd (cs := #[.int .i64 a0_0, .string a0_1, .bool a0_2, .int .i64 a0_3, .int .i64 a0_4]) (t := 37) ?hr ?_; (case hd => rfl); (case hg => rfl); (case hr => ((go_simp; done))); intro gb247 hg w5 hbox hb; have n0_ := Aside0.mk (below_step (by exact HB.out) hb); have n1_ := Aside0.mk (hbox); have n2_ := Aside0.mk ((by rw [hg]; exact (below_size (by exact HB.out)) : w.heap.size ≤ gb247)); have n3_ := Aside0.mk ((by rw [hg]; exact (below_size (by exact HB.out)) : w.heap.size ≤ gb247)); clear HB; have HB := n0_; have BK247 := n1_; have GW247 := n2_; have GE247 := n3_; clear n0_ n1_ n2_ n3_; clear hb hbox hg; have hcz6_0 : w5.cell? ⟨gb247, 0, none⟩ = some (.int .i64 a0_0) := (blk_cell BK247.out 0).trans rfl; have hcz6_1 : w5.cell? ⟨gb247, 1, none⟩ = some (.string a0_1) := (blk_cell BK247.out 1).trans rfl; have hcz6_2 : w5.cell? ⟨gb247, 2, none⟩ = some (.bool a0_2) := (blk_cell BK247.out 2).trans rfl; have hcz6_3 : w5.cell? ⟨gb247, 3, none⟩ = some (.int .i64 a0_3) := (blk_cell BK247.out 3).trans rfl; have hcz6_4 : w5.cell? ⟨gb247, 4, none⟩ = some (.int .i64 a0_4) := (blk_cell BK247.out 4).trans rfl; have hfz6_0 := blk_frozen BK247.out 0; have hfz6_1 := blk_frozen BK247.out 1; have hfz6_2 := blk_frozen BK247.out 2; have hfz6_3 := blk_frozen BK247.out 3; have hfz6_4 := blk_frozen BK247.out 4)))
  go_ret
  exact ⟨by rfl, by exact HB.out⟩

/-! ### sexp_sound: function 64 -/
mutual
def sexp_sound.l0 : Nat → List (S56) → List Bool → Int → Option (List Bool × Bool)
 | 0, _, _, _ => none
 | k + 1, x0, x6, x7 => if x7 ≥ 0 then (if 0 ≤ x7 then (if x7 < (x6.length : Int) then (if rdOf false x6 x7 = true then (if x7 < (x0.length : Int) then (if ((rd_T56 x0 x7).f0) = 1 then ((lexis_Write.f ((rd_T56 x0 x7).f1.f0) ((rd_T56 x0 x7).f1.f1) ((rd_T56 x0 x7).f1.f2) ((rd_T56 x0 x7).f1.f3) ((rd_T56 x0 x7).f1.f4)).bind fun bt255 => (if bt255.2 = 0 then ((sexp_paren.f ((rd_T56 x0 x7).f1.f0) ((rd_T56 x0 x7).f1.f1) ((rd_T56 x0 x7).f1.f2) ((rd_T56 x0 x7).f1.f3) ((rd_T56 x0 x7).f1.f4)).bind fun t258 => (if t258 = true then (some (([] : List Bool), false)) else (sexp_sound.l0 k x0 x6 (wrap64 (x7 - 1))))) else (some (([] : List Bool), false)))) else (if ((rd_T56 x0 x7).f0) = 2 then (sexp_sound.l1 k x0 x6 x7 ((rd_T56 x0 x7).f2) (((rd_T56 x0 x7).f2).length : Int) 0) else (some (([] : List Bool), false)))) else (none)) else (sexp_sound.l0 k x0 x6 (wrap64 (x7 - 1)))) else (none)) else (none)) else (some (x6, true))
def sexp_sound.l1 : Nat → List (S56) → List Bool → Int → List Int → Int → Int → Option (List Bool × Bool)
 | 0, _, _, _, _, _, _ => none
 | k + 1, x0, x6, x7, x60, x61, x62 => if x62 < x61 then (if 0 ≤ x62 then (if x62 < (x60.length : Int) then (if (rd x60 x62) < 0 then (some (([] : List Bool), false)) else (if (rd x60 x62) ≥ x7 then (some (([] : List Bool), false)) else (if 0 ≤ (rd x60 x62) then (if (rd x60 x62) < (x6.length : Int) then (sexp_sound.l1 k x0 (x6.set ((rd x60 x62) : Int).toNat true) x7 x60 x61 (wrap64 (x62 + 1))) else (none)) else (none)))) else (none)) else (none)) else (sexp_sound.l0 k x0 x6 (wrap64 (x7 - 1)))
end
def sexp_sound.f (k : Nat) (l0 : List (S56)) (a1 : Int) : Option (List Bool × Bool) := if 0 ≤ (wrap64 (a1 + 1)) then (if (wrap64 (a1 + 1) : Int).toNat ≤ 281474976710656 then ((some (List.replicate (wrap64 (a1 + 1) : Int).toNat false : List Bool)).bind fun y248 => (if 0 ≤ a1 then (if a1 < (y248.length : Int) then (sexp_sound.l0 k l0 (y248.set (a1 : Int).toNat true) a1) else (none)) else (none))) else (none)) else (none)
theorem sexp_sound.mono_l : ∀ k, (∀ y0 y1 y2, LeO (sexp_sound.l0 k y0 y1 y2) (sexp_sound.l0 (k + 1) y0 y1 y2)) ∧ (∀ y0 y1 y2 y3 y4 y5, LeO (sexp_sound.l1 k y0 y1 y2 y3 y4 y5) (sexp_sound.l1 (k + 1) y0 y1 y2 y3 y4 y5))
 | 0 => ⟨fun _ _ _ r h => by simp [sexp_sound.l0] at h, fun _ _ _ _ _ _ r h => by simp [sexp_sound.l1] at h⟩
 | k + 1 => by
  obtain ⟨ih0, ih1⟩ := sexp_sound.mono_l k
  refine ⟨?_, ?_⟩
  ·intro y0 y1 y2
   unfold sexp_sound.l0
   repeat' first
   | (with_reducible exact ih0 _ _ _)
   | (with_reducible exact ih1 _ _ _ _ _ _)
   | (with_reducible exact LeO.refl _)
   | (with_reducible refine LeO.ite ?_ ?_)
   | (with_reducible refine LeO.bind ?_ (fun _ => ?_))
  ·intro y0 y1 y2 y3 y4 y5
   unfold sexp_sound.l1
   repeat' first
   | (with_reducible exact ih0 _ _ _)
   | (with_reducible exact ih1 _ _ _ _ _ _)
   | (with_reducible exact LeO.refl _)
   | (with_reducible refine LeO.ite ?_ ?_)
theorem sexp_sound.mono : ∀ a0 a1 k, LeO (sexp_sound.f k a0 a1) (sexp_sound.f (k + 1) a0 a1) := by
 intro a0 a1 k
 obtain ⟨ih0, ih1⟩ := sexp_sound.mono_l k
 unfold sexp_sound.f
 repeat' first
  | (with_reducible exact ih0 _ _ _)
  | (with_reducible exact LeO.refl _)
  | (with_reducible refine LeO.ite ?_ ?_)
  | (with_reducible refine LeO.bind ?_ (fun _ => ?_))
set_option maxHeartbeats 8000000 in
set_option maxRecDepth 100000 in
theorem sexp_sound.calls (k : Nat) (A0 : Option Addr) (c0 : Nat) (l0 : List (S56)) (a1 : Int) (r1 : List Bool) (r2 : Bool) (w : World) (hr0 : Kd.C k56 w A0 l0.length l0) (hc0 : l0.length ≤ c0) (h : sexp_sound.f k l0 a1 = some (r1, r2)) :
 Calls Tryz.prog 49 #[.slice A0 l0.length c0, .int .i64 a1] w fun e w' => ∃ v0_ : Value, e = .returned (.tuple #[v0_, .bool r2]) ∧ Kd.R Kd.bool 4 w' w.heap.size (fun _ => True) v0_ r1 ∧ Below w.heap.size w w' := by
 have hu38 := Tryz.underlying37
 have HR0 := Aside0.mk hr0
 have HC0 := Aside0.mk hc0
 clear hr0 hc0
 have HB := Aside0.mk (Below.refl w.heap.size w)
 have H : (if 0 ≤ (wrap64 (a1 + 1)) then (if (wrap64 (a1 + 1) : Int).toNat ≤ 281474976710656 then ((some (List.replicate (wrap64 (a1 + 1) : Int).toNat false : List Bool)).bind fun y248 => (if 0 ≤ a1 then (if a1 < (y248.length : Int) then (sexp_sound.l0 k l0 (y248.set (a1 : Int).toNat true) a1) else (none)) else (none))) else (none)) else (none)) = some (r1, r2) := h
 clear h
 obtain ⟨ji3, hji3⟩ : ∃ j_ : Int, (wrap64 (a1 + 1)) = j_ := ⟨_, rfl⟩
 replace H : (if 0 ≤ (ji3) then (if (ji3 : Int).toNat ≤ 281474976710656 then ((some (List.replicate (ji3 : Int).toNat false : List Bool)).bind fun y248 => (if 0 ≤ a1 then (if a1 < (y248.length : Int) then (sexp_sound.l0 k l0 (y248.set (a1 : Int).toNat true) a1) else (none)) else (none))) else (none)) else (none)) = some (r1, r2) := by ((rw [hji3] at H; exact H))
 have hji3w : (IntKind.i64.wrap (a1 + 1)) = ji3 := (i64_w _).trans hji3
 by_cases c4 : 0 ≤ (ji3)
 ·rw [if_pos c4] at H
  have c4b0 := eq_true c4
  have c4b1 : decide (0 ≤ (ji3)) = true := decide_eq_true c4
  clear c4
  by_cases c5 : (ji3 : Int).toNat ≤ 281474976710656
  ·rw [if_pos c5] at H
   have c5b0 := eq_true c5
   have c5b1 : decide ((ji3 : Int).toNat ≤ 281474976710656) = true := decide_eq_true c5
   clear c5
   obtain ⟨y248, hy248⟩ : ∃ y_ : List Bool, y_ = (List.replicate (ji3 : Int).toNat false) := ⟨_, rfl⟩
   replace H : (if 0 ≤ a1 then (if a1 < (y248.length : Int) then (sexp_sound.l0 k l0 (y248.set (a1 : Int).toNat true) a1) else (none)) else (none)) = some (r1, r2) := by ((have H2_ := (Option.bind_some _ _).symm.trans H; rw [hy248]; with_reducible exact H2_))
   have Ny248 := Aside0.mk hy248
   clear hy248
   by_cases c6 : 0 ≤ a1
   ·rw [if_pos c6] at H
    have c6b0 : decide (0 ≤ a1) = true := decide_eq_true c6
    clear c6
    by_cases c7 : a1 < (y248.length : Int)
    ·rw [if_pos c7] at H
     have c7b0 : decide (a1 < (y248.length : Int)) = true := decide_eq_true c7
     clear c7
     obtain ⟨y251, hy251⟩ : ∃ y_ : List Bool, y_ = (y248.set (a1 : Int).toNat true) := ⟨_, rfl⟩
     replace H : (sexp_sound.l0 k l0 y251 a1) = some (r1, r2) := by ((rw [hy251]; with_reducible exact H))
     have Ny251 := Aside0.mk hy251
     clear hy251
     have H' := Aside0.mk H
     clear H
     go_enter Tryz.func49, Tryz.ntmps49
     go_wp2_with (first | ((with_reducible refine gate_dst (N := 14) rfl ?_); refine Kd.R_make Kd.bool _ 4 rfl (N := 14) rfl 58 _ _ rfl ji3 rfl rfl Tryz.underlying58 (.bool false) 1 info4 rfl (by decide) (by omega) false (ok := fun _ => True) (okp := fun _ => True) rfl (fun _ hk => hk) trivial (of_decide_eq_true (by assumption)) (Nat.le_trans (Nat.mul_le_mul_right _ (of_decide_eq_true (by assumption) : ji3.toNat ≤ 281474976710656)) (by omega)) (Below.refl _ _) (Nat.le_refl _) ?_; intro v249 w9 ho10 hb hg_ hnew_; clear hg_ hnew_; (rw [← Ny248.out] at ho10); have n0_ := Aside0.mk (Kd.R_lower ho10 (below_size (by exact HB.out))); have n1_ := Aside0.mk (below_step (by exact HB.out) hb); clear HB; have HO250 := n0_; have HB := n1_; clear n0_ n1_; clear hb ho10; have p8 : 0 ≤ (a1 : Int) := of_decide_eq_true (by assumption); have q8 : (a1 : Int) < ((y248.length : Int) : Int) := of_decide_eq_true (by assumption); obtain ⟨go8, co8, eo8, gb8, gl8, cl8, HG8⟩ := Kd.R_form HO250.out (by omega); (cases eo8); have GB8 := Aside0.mk gb8; have GG8 := Aside0.mk HG8; clear gb8 gl8 HG8; obtain ⟨hx8_0, hf8_0⟩ := Kd.R_celln false HO250.out (a1 : Int) p8 q8; replace p8 := eq_true p8; replace q8 := eq_true q8; obtain ⟨hy11_, hz11_⟩ := Kd.R_celln false HO250.out (a1 : Int) (of_decide_eq_true (by assumption)) (of_decide_eq_true (by assumption)); have HP11 := Kd.R_putg HO250.out (a1 : Int) true) | ((with_reducible refine gate_store (t := 4) (p := 17) rfl ?_); refine store_event (t := 4) (p := 17) (v := ?vo_w12) (w1 := (w9.setCell ⟨go8, (a1 : Int).toNat, none⟩ (.bool true))) ?hg ?ho ?hn ?hr ?_; (case ho => rfl); (case hg => rfl); (case hn => rfl); (case hr => ((go_simp; done))); intro w12 hw; have hg : w9.grownBy w12 (some go8) := (by rw [hw]; exact HP11.2); have hp_ : Kd.R Kd.bool 4 w12 w.heap.size (fun _ => True) (.slice (some ⟨go8, 0, none⟩) y248.length co8) y251 := (by rw [hw, Ny251.out]; exact HP11.1); clear HP11; have n0_ := Aside0.mk (hp_); have n1_ := Aside0.mk ((by rw [hw]; exact below_set (HB.out) GB8.out : Below w.heap.size w w12)); clear HO250; clear HB; have HO250 := n0_; have HB := n1_; clear n0_ n1_; clear hg hw hp_))
     go_loopg [7] k (fun kq v7 w' => ∃ (x6_1 : List Bool) (x7_1 : Int), v7 = .int .i64 x7_1 ∧ Aside0 (sexp_sound.l0 kq l0 x6_1 x7_1 = some (r1, r2)) ∧ Aside0 (kq ≤ k) ∧ Aside0 (Kd.R Kd.bool 4 w' w.heap.size (fun _ => True) (.slice (some ⟨go8, 0, none⟩) y248.length co8) x6_1) ∧ Aside0 (Below w.heap.size w w'))
     case atStart => exact ⟨(y251), (a1), (by rfl), H', ⟨Nat.le_refl _⟩, ⟨by exact HO250.out⟩, ⟨by exact HB.out⟩⟩
     case round =>
      clear H'
      obtain ⟨x6_1, x7_1, rfl, HA, HK1, HO_6, HB⟩ := hrel
      have hl6_1 := (Kd.R_reads' HO_6.out).1
      rw [hl6_1] at HO_6
      (try simp only [hl6_1])
      cases gk with
      | zero => exact absurd HA.out (by simp [sexp_sound.l0])
      | succ k1 =>
       have H := HA.out
       clear HA
       simp only [sexp_sound.l0] at H
       by_cases c13 : x7_1 ≥ 0
       ·rw [if_pos c13] at H
        have c13b0 : decide (0 ≤ x7_1) = true := decide_eq_true c13
        clear c13
        by_cases c14 : 0 ≤ x7_1
        ·rw [if_pos c14] at H
         have c14b0 : decide (0 ≤ x7_1) = true := decide_eq_true c14
         clear c14
         by_cases c15 : x7_1 < (x6_1.length : Int)
         ·rw [if_pos c15] at H
          have c15b0 : decide (x7_1 < (x6_1.length : Int)) = true := decide_eq_true c15
          clear c15
          obtain ⟨bq16, hbq16⟩ : ∃ b_ : Bool, b_ = (rdOf false x6_1 x7_1) := ⟨_, rfl⟩
          replace H : (if bq16 = true then (if x7_1 < (l0.length : Int) then (if ((rd_T56 l0 x7_1).f0) = 1 then ((lexis_Write.f ((rd_T56 l0 x7_1).f1.f0) ((rd_T56 l0 x7_1).f1.f1) ((rd_T56 l0 x7_1).f1.f2) ((rd_T56 l0 x7_1).f1.f3) ((rd_T56 l0 x7_1).f1.f4)).bind fun bt255 => (if bt255.2 = 0 then ((sexp_paren.f ((rd_T56 l0 x7_1).f1.f0) ((rd_T56 l0 x7_1).f1.f1) ((rd_T56 l0 x7_1).f1.f2) ((rd_T56 l0 x7_1).f1.f3) ((rd_T56 l0 x7_1).f1.f4)).bind fun t258 => (if t258 = true then (some (([] : List Bool), false)) else (sexp_sound.l0 k1 l0 x6_1 (wrap64 (x7_1 - 1))))) else (some (([] : List Bool), false)))) else (if ((rd_T56 l0 x7_1).f0) = 2 then (sexp_sound.l1 k1 l0 x6_1 x7_1 ((rd_T56 l0 x7_1).f2) (((rd_T56 l0 x7_1).f2).length : Int) 0) else (some (([] : List Bool), false)))) else (none)) else (sexp_sound.l0 k1 l0 x6_1 (wrap64 (x7_1 - 1)))) = some (r1, r2) := by rw [← hbq16] at H; exact H
          have Nbq16 := Aside0.mk hbq16
          clear hbq16
          by_cases c17 : bq16 = true
          ·subst c17
           have H1 : (if x7_1 < (l0.length : Int) then (if ((rd_T56 l0 x7_1).f0) = 1 then ((lexis_Write.f ((rd_T56 l0 x7_1).f1.f0) ((rd_T56 l0 x7_1).f1.f1) ((rd_T56 l0 x7_1).f1.f2) ((rd_T56 l0 x7_1).f1.f3) ((rd_T56 l0 x7_1).f1.f4)).bind fun bt255 => (if bt255.2 = 0 then ((sexp_paren.f ((rd_T56 l0 x7_1).f1.f0) ((rd_T56 l0 x7_1).f1.f1) ((rd_T56 l0 x7_1).f1.f2) ((rd_T56 l0 x7_1).f1.f3) ((rd_T56 l0 x7_1).f1.f4)).bind fun t258 => (if t258 = true then (some (([] : List Bool), false)) else (sexp_sound.l0 k1 l0 x6_1 (wrap64 (x7_1 - 1))))) else (some (([] : List Bool), false)))) else (if ((rd_T56 l0 x7_1).f0) = 2 then (sexp_sound.l1 k1 l0 x6_1 x7_1 ((rd_T56 l0 x7_1).f2) (((rd_T56 l0 x7_1).f2).length : Int) 0) else (some (([] : List Bool), false)))) else (none)) = some (r1, r2) := by rw [if_pos rfl] at H; exact H
           clear H
           have H := H1
           clear H1
           by_cases c18 : x7_1 < (l0.length : Int)
           ·rw [if_pos c18] at H
            have c18b0 : decide (x7_1 < (l0.length : Int)) = true := decide_eq_true c18
            clear c18
            by_cases c19 : ((rd_T56 l0 x7_1).f0) = 1
            ·rw [if_pos c19] at H
             have c19b0 : (((rd_T56 l0 x7_1).f0) == 1) = true := beq_iff_eq.mpr c19
             have c19b1 : (((rd_T56 l0 x7_1).f0) != 1) = false := bne_eq_false_iff_eq.mpr c19
             clear c19
             replace H := Option.bind_eq_some_iff.mp H
             obtain ⟨⟨t255, t256⟩, A200, H⟩ := H
             replace H : (if t256 = 0 then ((sexp_paren.f ((rd_T56 l0 x7_1).f1.f0) ((rd_T56 l0 x7_1).f1.f1) ((rd_T56 l0 x7_1).f1.f2) ((rd_T56 l0 x7_1).f1.f3) ((rd_T56 l0 x7_1).f1.f4)).bind fun t258 => (if t258 = true then (some (([] : List Bool), false)) else (sexp_sound.l0 k1 l0 x6_1 (wrap64 (x7_1 - 1))))) else (some (([] : List Bool), false))) = some (r1, r2) := H
             have A20 := Aside0.mk A200
             clear A200
             by_cases c21 : t256 = 0
             ·rw [if_pos c21] at H
              have c21b0 : (t256 == 0) = true := beq_iff_eq.mpr c21
              have c21b1 : (t256 != 0) = false := bne_eq_false_iff_eq.mpr c21
              clear c21
              replace H := Option.bind_eq_some_iff.mp H
              obtain ⟨t258, A220, H⟩ := H
              replace H : (if t258 = true then (some (([] : List Bool), false)) else (sexp_sound.l0 k1 l0 x6_1 (wrap64 (x7_1 - 1)))) = some (r1, r2) := H
              have A22 := Aside0.mk A220
              clear A220
              by_cases c23 : t258 = true
              ·subst c23
               have H1 : (some (([] : List Bool), false)) = some (r1, r2) := by rw [if_pos rfl] at H; exact H
               clear H
               have H := H1
               clear H1
               simp only [Option.some.injEq, Prod.mk.injEq] at H
               obtain ⟨rfl, rfl⟩ := H
               have p252 : 0 ≤ (x7_1 : Int) := of_decide_eq_true (by assumption)
               have q252 : x7_1 < (x6_1.length : Int) := of_decide_eq_true (by assumption)
               obtain ⟨ad252, e252, hx252_0⟩ := Kd.at_bool (Kd.R_reads' HO_6.out).2.2 x7_1 p252 q252
               (try rw [← Nbq16.out] at hx252_0)
               obtain rfl : (⟨go8, 0, none⟩ : Addr) = ad252 := (by injection e252)
               (simp only [add_plain] at hx252_0)
               replace p252 := eq_true p252
               replace q252 := eq_true q252
               have p253 : 0 ≤ (x7_1 : Int) := of_decide_eq_true (by assumption)
               have q253 : x7_1 < (l0.length : Int) := of_decide_eq_true (by assumption)
               obtain ⟨ad253, A253_6, c253_6, e253, hx253_0, hx253_1, hx253_2, hx253_3, hx253_4, hx253_5, hx253_6, hl253_6, hi253_6⟩ := at_T56 HR0.out x7_1 p253 q253
               skip
               cases e253
               replace hx253_0 := (HB.out.cell (World.block_lt_of_cell? w _ hx253_0)).trans hx253_0
               replace hx253_1 := (HB.out.cell (World.block_lt_of_cell? w _ hx253_1)).trans hx253_1
               replace hx253_2 := (HB.out.cell (World.block_lt_of_cell? w _ hx253_2)).trans hx253_2
               replace hx253_3 := (HB.out.cell (World.block_lt_of_cell? w _ hx253_3)).trans hx253_3
               replace hx253_4 := (HB.out.cell (World.block_lt_of_cell? w _ hx253_4)).trans hx253_4
               replace hx253_5 := (HB.out.cell (World.block_lt_of_cell? w _ hx253_5)).trans hx253_5
               replace hx253_6 := (HB.out.cell (World.block_lt_of_cell? w _ hx253_6)).trans hx253_6
               have HR253_6 := Aside0.mk hi253_6
               have HC253_6 := Aside0.mk hl253_6
               clear hi253_6 hl253_6
               replace p253 := eq_true p253
               replace q253 := eq_true q253
               have p254 : 0 ≤ (x7_1 : Int) := of_decide_eq_true (by assumption)
               have q254 : x7_1 < (l0.length : Int) := of_decide_eq_true (by assumption)
               obtain ⟨ad254, A254_6, c254_6, e254, hx254_0, hx254_1, hx254_2, hx254_3, hx254_4, hx254_5, hx254_6, hl254_6, hi254_6⟩ := at_T56 HR0.out x7_1 p254 q254
               skip
               obtain rfl : ad253 = ad254 := (by injection e254)
               replace hx254_0 := (HB.out.cell (World.block_lt_of_cell? w _ hx254_0)).trans hx254_0
               replace hx254_1 := (HB.out.cell (World.block_lt_of_cell? w _ hx254_1)).trans hx254_1
               replace hx254_2 := (HB.out.cell (World.block_lt_of_cell? w _ hx254_2)).trans hx254_2
               replace hx254_3 := (HB.out.cell (World.block_lt_of_cell? w _ hx254_3)).trans hx254_3
               replace hx254_4 := (HB.out.cell (World.block_lt_of_cell? w _ hx254_4)).trans hx254_4
               replace hx254_5 := (HB.out.cell (World.block_lt_of_cell? w _ hx254_5)).trans hx254_5
               replace hx254_6 := (HB.out.cell (World.block_lt_of_cell? w _ hx254_6)).trans hx254_6
               have HR254_6 := Aside0.mk hi254_6
               have HC254_6 := Aside0.mk hl254_6
               clear hi254_6 hl254_6
               replace p254 := eq_true p254
               replace q254 := eq_true q254
               have ea_ := Option.some.inj (hx253_6.symm.trans hx254_6)
               injection ea_ with ea_ en_ ec_
               subst ea_
               subst ec_
               clear en_
               go_wp2_with (first | ((with_reducible refine gate_callee (f := 15) rfl ?_); refine goesL_ (some 41) rfl rfl Tryz.func15 (by kernel_rfl) rfl #[.agg #[.int .i64 ((rd_T56 l0 x7_1).f1.f0), .string ((rd_T56 l0 x7_1).f1.f1), .bool ((rd_T56 l0 x7_1).f1.f2), .int .i64 ((rd_T56 l0 x7_1).f1.f3), .int .i64 ((rd_T56 l0 x7_1).f1.f4)]] rfl (by (try simp only [List.map_toArray, List.map_cons, List.map_nil]); rfl) ?_; (with_reducible refine (lexis_Write.calls ((rd_T56 l0 x7_1).f1.f0) ((rd_T56 l0 x7_1).f1.f1) ((rd_T56 l0 x7_1).f1.f2) ((rd_T56 l0 x7_1).f1.f3) ((rd_T56 l0 x7_1).f1.f4) t255 t256 _ A20.out).mono ?_); rintro e w24 ⟨rfl, hb⟩; refine ⟨_, rfl, ?_⟩; have n0_ := Aside0.mk (Kd.R_below (by exact HO_6.out) hb); have n1_ := Aside0.mk (below_step (by exact HB.out) hb); clear HO_6; clear HB; have HO_6 := n0_; have HB := n1_; clear n0_ n1_; (try clear hb); have p257 : 0 ≤ (x7_1 : Int) := of_decide_eq_true (by assumption); have q257 : x7_1 < (l0.length : Int) := of_decide_eq_true (by assumption); obtain ⟨ad257, A257_6, c257_6, e257, hx257_0, hx257_1, hx257_2, hx257_3, hx257_4, hx257_5, hx257_6, hl257_6, hi257_6⟩ := at_T56 HR0.out x7_1 p257 q257; obtain rfl : ad253 = ad257 := (by injection e257); replace hx257_0 := (HB.out.cell (World.block_lt_of_cell? w _ hx257_0)).trans hx257_0; replace hx257_1 := (HB.out.cell (World.block_lt_of_cell? w _ hx257_1)).trans hx257_1; replace hx257_2 := (HB.out.cell (World.block_lt_of_cell? w _ hx257_2)).trans hx257_2; replace hx257_3 := (HB.out.cell (World.block_lt_of_cell? w _ hx257_3)).trans hx257_3; replace hx257_4 := (HB.out.cell (World.block_lt_of_cell? w _ hx257_4)).trans hx257_4; replace hx257_5 := (HB.out.cell (World.block_lt_of_cell? w _ hx257_5)).trans hx257_5; replace hx257_6 := (HB.out.cell (World.block_lt_of_cell? w _ hx257_6)).trans hx257_6; have HR257_6 := Aside0.mk hi257_6; have HC257_6 := Aside0.mk hl257_6; clear hi257_6 hl257_6; replace p257 := eq_true p257; replace q257 := eq_true q257) | (go_at_call 62; (with_reducible refine (sexp_paren.calls ((rd_T56 l0 x7_1).f1.f0) ((rd_T56 l0 x7_1).f1.f1) ((rd_T56 l0 x7_1).f1.f2) ((rd_T56 l0 x7_1).f1.f3) ((rd_T56 l0 x7_1).f1.f4) true _ A22.out).mono ?_); rintro e w25 ⟨rfl, hb⟩; have n0_ := Aside0.mk (Kd.R_below (by exact HO_6.out) hb); have n1_ := Aside0.mk (below_step (by exact HB.out) hb); clear HO_6; clear HB; have HO_6 := n0_; have HB := n1_; clear n0_ n1_; (try clear hb); ))
               go_ret2
               exact ⟨_, by rfl, by exact Kd.R_nil _ _ _ _ _, by exact HB.out⟩
              ·replace c23 := Bool.eq_false_iff.mpr c23
               subst c23
               have H1 : (sexp_sound.l0 k1 l0 x6_1 (wrap64 (x7_1 - 1))) = some (r1, r2) := by rw [if_neg (show ¬ (false = true) by decide)] at H; exact H
               clear H
               have H := H1
               clear H1
               have H' := Aside0.mk H
               clear H
               have p252 : 0 ≤ (x7_1 : Int) := of_decide_eq_true (by assumption)
               have q252 : x7_1 < (x6_1.length : Int) := of_decide_eq_true (by assumption)
               obtain ⟨ad252, e252, hx252_0⟩ := Kd.at_bool (Kd.R_reads' HO_6.out).2.2 x7_1 p252 q252
               (try rw [← Nbq16.out] at hx252_0)
               obtain rfl : (⟨go8, 0, none⟩ : Addr) = ad252 := (by injection e252)
               (simp only [add_plain] at hx252_0)
               replace p252 := eq_true p252
               replace q252 := eq_true q252
               have p253 : 0 ≤ (x7_1 : Int) := of_decide_eq_true (by assumption)
               have q253 : x7_1 < (l0.length : Int) := of_decide_eq_true (by assumption)
               obtain ⟨ad253, A253_6, c253_6, e253, hx253_0, hx253_1, hx253_2, hx253_3, hx253_4, hx253_5, hx253_6, hl253_6, hi253_6⟩ := at_T56 HR0.out x7_1 p253 q253
               skip
               cases e253
               replace hx253_0 := (HB.out.cell (World.block_lt_of_cell? w _ hx253_0)).trans hx253_0
               replace hx253_1 := (HB.out.cell (World.block_lt_of_cell? w _ hx253_1)).trans hx253_1
               replace hx253_2 := (HB.out.cell (World.block_lt_of_cell? w _ hx253_2)).trans hx253_2
               replace hx253_3 := (HB.out.cell (World.block_lt_of_cell? w _ hx253_3)).trans hx253_3
               replace hx253_4 := (HB.out.cell (World.block_lt_of_cell? w _ hx253_4)).trans hx253_4
               replace hx253_5 := (HB.out.cell (World.block_lt_of_cell? w _ hx253_5)).trans hx253_5
               replace hx253_6 := (HB.out.cell (World.block_lt_of_cell? w _ hx253_6)).trans hx253_6
               have HR253_6 := Aside0.mk hi253_6
               have HC253_6 := Aside0.mk hl253_6
               clear hi253_6 hl253_6
               replace p253 := eq_true p253
               replace q253 := eq_true q253
               have p254 : 0 ≤ (x7_1 : Int) := of_decide_eq_true (by assumption)
               have q254 : x7_1 < (l0.length : Int) := of_decide_eq_true (by assumption)
               obtain ⟨ad254, A254_6, c254_6, e254, hx254_0, hx254_1, hx254_2, hx254_3, hx254_4, hx254_5, hx254_6, hl254_6, hi254_6⟩ := at_T56 HR0.out x7_1 p254 q254
               skip
               obtain rfl : ad253 = ad254 := (by injection e254)
               replace hx254_0 := (HB.out.cell (World.block_lt_of_cell? w _ hx254_0)).trans hx254_0
               replace hx254_1 := (HB.out.cell (World.block_lt_of_cell? w _ hx254_1)).trans hx254_1
               replace hx254_2 := (HB.out.cell (World.block_lt_of_cell? w _ hx254_2)).trans hx254_2
               replace hx254_3 := (HB.out.cell (World.block_lt_of_cell? w _ hx254_3)).trans hx254_3
               replace hx254_4 := (HB.out.cell (World.block_lt_of_cell? w _ hx254_4)).trans hx254_4
               replace hx254_5 := (HB.out.cell (World.block_lt_of_cell? w _ hx254_5)).trans hx254_5
               replace hx254_6 := (HB.out.cell (World.block_lt_of_cell? w _ hx254_6)).trans hx254_6
               have HR254_6 := Aside0.mk hi254_6
               have HC254_6 := Aside0.mk hl254_6
               clear hi254_6 hl254_6
               replace p254 := eq_true p254
               replace q254 := eq_true q254
               have ea_ := Option.some.inj (hx253_6.symm.trans hx254_6)
               injection ea_ with ea_ en_ ec_
               subst ea_
               subst ec_
               clear en_
               go_wp2_with (first | ((with_reducible refine gate_callee (f := 15) rfl ?_); refine goesL_ (some 41) rfl rfl Tryz.func15 (by kernel_rfl) rfl #[.agg #[.int .i64 ((rd_T56 l0 x7_1).f1.f0), .string ((rd_T56 l0 x7_1).f1.f1), .bool ((rd_T56 l0 x7_1).f1.f2), .int .i64 ((rd_T56 l0 x7_1).f1.f3), .int .i64 ((rd_T56 l0 x7_1).f1.f4)]] rfl (by (try simp only [List.map_toArray, List.map_cons, List.map_nil]); rfl) ?_; (with_reducible refine (lexis_Write.calls ((rd_T56 l0 x7_1).f1.f0) ((rd_T56 l0 x7_1).f1.f1) ((rd_T56 l0 x7_1).f1.f2) ((rd_T56 l0 x7_1).f1.f3) ((rd_T56 l0 x7_1).f1.f4) t255 t256 _ A20.out).mono ?_); rintro e w26 ⟨rfl, hb⟩; refine ⟨_, rfl, ?_⟩; have n0_ := Aside0.mk (Kd.R_below (by exact HO_6.out) hb); have n1_ := Aside0.mk (below_step (by exact HB.out) hb); clear HO_6; clear HB; have HO_6 := n0_; have HB := n1_; clear n0_ n1_; (try clear hb); have p257 : 0 ≤ (x7_1 : Int) := of_decide_eq_true (by assumption); have q257 : x7_1 < (l0.length : Int) := of_decide_eq_true (by assumption); obtain ⟨ad257, A257_6, c257_6, e257, hx257_0, hx257_1, hx257_2, hx257_3, hx257_4, hx257_5, hx257_6, hl257_6, hi257_6⟩ := at_T56 HR0.out x7_1 p257 q257; obtain rfl : ad253 = ad257 := (by injection e257); replace hx257_0 := (HB.out.cell (World.block_lt_of_cell? w _ hx257_0)).trans hx257_0; replace hx257_1 := (HB.out.cell (World.block_lt_of_cell? w _ hx257_1)).trans hx257_1; replace hx257_2 := (HB.out.cell (World.block_lt_of_cell? w _ hx257_2)).trans hx257_2; replace hx257_3 := (HB.out.cell (World.block_lt_of_cell? w _ hx257_3)).trans hx257_3; replace hx257_4 := (HB.out.cell (World.block_lt_of_cell? w _ hx257_4)).trans hx257_4; replace hx257_5 := (HB.out.cell (World.block_lt_of_cell? w _ hx257_5)).trans hx257_5; replace hx257_6 := (HB.out.cell (World.block_lt_of_cell? w _ hx257_6)).trans hx257_6; have HR257_6 := Aside0.mk hi257_6; have HC257_6 := Aside0.mk hl257_6; clear hi257_6 hl257_6; replace p257 := eq_true p257; replace q257 := eq_true q257) | (go_at_call 62; (with_reducible refine (sexp_paren.calls ((rd_T56 l0 x7_1).f1.f0) ((rd_T56 l0 x7_1).f1.f1) ((rd_T56 l0 x7_1).f1.f2) ((rd_T56 l0 x7_1).f1.f3) ((rd_T56 l0 x7_1).f1.f4) false _ A22.out).mono ?_); rintro e w27 ⟨rfl, hb⟩; have n0_ := Aside0.mk (Kd.R_below (by exact HO_6.out) hb); have n1_ := Aside0.mk (below_step (by exact HB.out) hb); clear HO_6; clear HB; have HO_6 := n0_; have HB := n1_; clear n0_ n1_; (try clear hb); ))
               (try simp only [← hl6_1])
               go_roundg k1
               case measure => have := HK1.out; omega
               case rel => exact ⟨(x6_1), (wrap64 (x7_1 - 1)), (by rfl), H', ⟨by have := HK1.out; omega⟩, ⟨by (try simp only [hl6_1]); exact HO_6.out⟩, ⟨by exact HB.out⟩⟩
             ·rw [if_neg c21] at H
              have c21b0 : (t256 == 0) = false := beq_eq_false_iff_ne.mpr c21
              have c21b1 : (t256 != 0) = true := bne_iff_ne.mpr c21
              simp only [Option.some.injEq, Prod.mk.injEq] at H
              obtain ⟨rfl, rfl⟩ := H
              have p252 : 0 ≤ (x7_1 : Int) := of_decide_eq_true (by assumption)
              have q252 : x7_1 < (x6_1.length : Int) := of_decide_eq_true (by assumption)
              obtain ⟨ad252, e252, hx252_0⟩ := Kd.at_bool (Kd.R_reads' HO_6.out).2.2 x7_1 p252 q252
              (try rw [← Nbq16.out] at hx252_0)
              obtain rfl : (⟨go8, 0, none⟩ : Addr) = ad252 := (by injection e252)
              (simp only [add_plain] at hx252_0)
              replace p252 := eq_true p252
              replace q252 := eq_true q252
              have p253 : 0 ≤ (x7_1 : Int) := of_decide_eq_true (by assumption)
              have q253 : x7_1 < (l0.length : Int) := of_decide_eq_true (by assumption)
              obtain ⟨ad253, A253_6, c253_6, e253, hx253_0, hx253_1, hx253_2, hx253_3, hx253_4, hx253_5, hx253_6, hl253_6, hi253_6⟩ := at_T56 HR0.out x7_1 p253 q253
              skip
              cases e253
              replace hx253_0 := (HB.out.cell (World.block_lt_of_cell? w _ hx253_0)).trans hx253_0
              replace hx253_1 := (HB.out.cell (World.block_lt_of_cell? w _ hx253_1)).trans hx253_1
              replace hx253_2 := (HB.out.cell (World.block_lt_of_cell? w _ hx253_2)).trans hx253_2
              replace hx253_3 := (HB.out.cell (World.block_lt_of_cell? w _ hx253_3)).trans hx253_3
              replace hx253_4 := (HB.out.cell (World.block_lt_of_cell? w _ hx253_4)).trans hx253_4
              replace hx253_5 := (HB.out.cell (World.block_lt_of_cell? w _ hx253_5)).trans hx253_5
              replace hx253_6 := (HB.out.cell (World.block_lt_of_cell? w _ hx253_6)).trans hx253_6
              have HR253_6 := Aside0.mk hi253_6
              have HC253_6 := Aside0.mk hl253_6
              clear hi253_6 hl253_6
              replace p253 := eq_true p253
              replace q253 := eq_true q253
              have p254 : 0 ≤ (x7_1 : Int) := of_decide_eq_true (by assumption)
              have q254 : x7_1 < (l0.length : Int) := of_decide_eq_true (by assumption)
              obtain ⟨ad254, A254_6, c254_6, e254, hx254_0, hx254_1, hx254_2, hx254_3, hx254_4, hx254_5, hx254_6, hl254_6, hi254_6⟩ := at_T56 HR0.out x7_1 p254 q254
              skip
              obtain rfl : ad253 = ad254 := (by injection e254)
              replace hx254_0 := (HB.out.cell (World.block_lt_of_cell? w _ hx254_0)).trans hx254_0
              replace hx254_1 := (HB.out.cell (World.block_lt_of_cell? w _ hx254_1)).trans hx254_1
              replace hx254_2 := (HB.out.cell (World.block_lt_of_cell? w _ hx254_2)).trans hx254_2
              replace hx254_3 := (HB.out.cell (World.block_lt_of_cell? w _ hx254_3)).trans hx254_3
              replace hx254_4 := (HB.out.cell (World.block_lt_of_cell? w _ hx254_4)).trans hx254_4
              replace hx254_5 := (HB.out.cell (World.block_lt_of_cell? w _ hx254_5)).trans hx254_5
              replace hx254_6 := (HB.out.cell (World.block_lt_of_cell? w _ hx254_6)).trans hx254_6
              have HR254_6 := Aside0.mk hi254_6
              have HC254_6 := Aside0.mk hl254_6
              clear hi254_6 hl254_6
              replace p254 := eq_true p254
              replace q254 := eq_true q254
              have ea_ := Option.some.inj (hx253_6.symm.trans hx254_6)
              injection ea_ with ea_ en_ ec_
              subst ea_
              subst ec_
              clear en_
              go_wp2_with ((((with_reducible refine gate_callee (f := 15) rfl ?_); refine goesL_ (some 41) rfl rfl Tryz.func15 (by kernel_rfl) rfl #[.agg #[.int .i64 ((rd_T56 l0 x7_1).f1.f0), .string ((rd_T56 l0 x7_1).f1.f1), .bool ((rd_T56 l0 x7_1).f1.f2), .int .i64 ((rd_T56 l0 x7_1).f1.f3), .int .i64 ((rd_T56 l0 x7_1).f1.f4)]] rfl (by (try simp only [List.map_toArray, List.map_cons, List.map_nil]); rfl) ?_; (with_reducible refine (lexis_Write.calls ((rd_T56 l0 x7_1).f1.f0) ((rd_T56 l0 x7_1).f1.f1) ((rd_T56 l0 x7_1).f1.f2) ((rd_T56 l0 x7_1).f1.f3) ((rd_T56 l0 x7_1).f1.f4) t255 t256 _ A20.out).mono ?_); rintro e w28 ⟨rfl, hb⟩; refine ⟨_, rfl, ?_⟩; have n0_ := Aside0.mk (Kd.R_below (by exact HO_6.out) hb); have n1_ := Aside0.mk (below_step (by exact HB.out) hb); clear HO_6; clear HB; have HO_6 := n0_; have HB := n1_; clear n0_ n1_; (try clear hb); )))
              go_ret2
              exact ⟨_, by rfl, by exact Kd.R_nil _ _ _ _ _, by exact HB.out⟩
            ·rw [if_neg c19] at H
             have c19b0 : (((rd_T56 l0 x7_1).f0) == 1) = false := beq_eq_false_iff_ne.mpr c19
             have c19b1 : (((rd_T56 l0 x7_1).f0) != 1) = true := bne_iff_ne.mpr c19
             by_cases c29 : ((rd_T56 l0 x7_1).f0) = 2
             ·rw [if_pos c29] at H
              have c29b0 : (((rd_T56 l0 x7_1).f0) == 2) = true := beq_iff_eq.mpr c29
              have c29b1 : (((rd_T56 l0 x7_1).f0) != 2) = false := bne_eq_false_iff_eq.mpr c29
              clear c29
              have H' := Aside0.mk H
              clear H
              have p252 : 0 ≤ (x7_1 : Int) := of_decide_eq_true (by assumption)
              have q252 : x7_1 < (x6_1.length : Int) := of_decide_eq_true (by assumption)
              obtain ⟨ad252, e252, hx252_0⟩ := Kd.at_bool (Kd.R_reads' HO_6.out).2.2 x7_1 p252 q252
              (try rw [← Nbq16.out] at hx252_0)
              obtain rfl : (⟨go8, 0, none⟩ : Addr) = ad252 := (by injection e252)
              (simp only [add_plain] at hx252_0)
              replace p252 := eq_true p252
              replace q252 := eq_true q252
              have p253 : 0 ≤ (x7_1 : Int) := of_decide_eq_true (by assumption)
              have q253 : x7_1 < (l0.length : Int) := of_decide_eq_true (by assumption)
              obtain ⟨ad253, A253_6, c253_6, e253, hx253_0, hx253_1, hx253_2, hx253_3, hx253_4, hx253_5, hx253_6, hl253_6, hi253_6⟩ := at_T56 HR0.out x7_1 p253 q253
              skip
              cases e253
              replace hx253_0 := (HB.out.cell (World.block_lt_of_cell? w _ hx253_0)).trans hx253_0
              replace hx253_1 := (HB.out.cell (World.block_lt_of_cell? w _ hx253_1)).trans hx253_1
              replace hx253_2 := (HB.out.cell (World.block_lt_of_cell? w _ hx253_2)).trans hx253_2
              replace hx253_3 := (HB.out.cell (World.block_lt_of_cell? w _ hx253_3)).trans hx253_3
              replace hx253_4 := (HB.out.cell (World.block_lt_of_cell? w _ hx253_4)).trans hx253_4
              replace hx253_5 := (HB.out.cell (World.block_lt_of_cell? w _ hx253_5)).trans hx253_5
              replace hx253_6 := (HB.out.cell (World.block_lt_of_cell? w _ hx253_6)).trans hx253_6
              have HR253_6 := Aside0.mk hi253_6
              have HC253_6 := Aside0.mk hl253_6
              clear hi253_6 hl253_6
              replace p253 := eq_true p253
              replace q253 := eq_true q253
              have p259 : 0 ≤ (x7_1 : Int) := of_decide_eq_true (by assumption)
              have q259 : x7_1 < (l0.length : Int) := of_decide_eq_true (by assumption)
              obtain ⟨ad259, A259_6, c259_6, e259, hx259_0, hx259_1, hx259_2, hx259_3, hx259_4, hx259_5, hx259_6, hl259_6, hi259_6⟩ := at_T56 HR0.out x7_1 p259 q259
              skip
              obtain rfl : ad253 = ad259 := (by injection e259)
              replace hx259_0 := (HB.out.cell (World.block_lt_of_cell? w _ hx259_0)).trans hx259_0
              replace hx259_1 := (HB.out.cell (World.block_lt_of_cell? w _ hx259_1)).trans hx259_1
              replace hx259_2 := (HB.out.cell (World.block_lt_of_cell? w _ hx259_2)).trans hx259_2
              replace hx259_3 := (HB.out.cell (World.block_lt_of_cell? w _ hx259_3)).trans hx259_3
              replace hx259_4 := (HB.out.cell (World.block_lt_of_cell? w _ hx259_4)).trans hx259_4
              replace hx259_5 := (HB.out.cell (World.block_lt_of_cell? w _ hx259_5)).trans hx259_5
              replace hx259_6 := (HB.out.cell (World.block_lt_of_cell? w _ hx259_6)).trans hx259_6
              have HR259_6 := Aside0.mk hi259_6
              have HC259_6 := Aside0.mk hl259_6
              clear hi259_6 hl259_6
              replace p259 := eq_true p259
              replace q259 := eq_true q259
              have ea_ := Option.some.inj (hx253_6.symm.trans hx259_6)
              injection ea_ with ea_ en_ ec_
              subst ea_
              subst ec_
              clear en_
              go_wp2
              go_loopg [62] k1 (fun kq v62 w' => ∃ (x6_2 : List Bool) (x62_2 : Int), v62 = .int .i64 x62_2 ∧ Aside0 (sexp_sound.l1 kq l0 x6_2 x7_1 ((rd_T56 l0 x7_1).f2) (((rd_T56 l0 x7_1).f2).length : Int) x62_2 = some (r1, r2)) ∧ Aside0 (kq ≤ k1) ∧ Aside0 (Kd.R Kd.bool 4 w' w.heap.size (fun _ => True) (.slice (some ⟨go8, 0, none⟩) x6_1.length co8) x6_2) ∧ Aside0 (Below w.heap.size w w'))
              case atStart => exact ⟨(x6_1), (0), (by rfl), H', ⟨Nat.le_refl _⟩, ⟨by exact HO_6.out⟩, ⟨by exact HB.out⟩⟩
              case round =>
               clear H'
               obtain ⟨x6_2, x62_2, rfl, HA, HK2, HO_6, HB⟩ := hrel
               have hl6_2 := (Kd.R_reads' HO_6.out).1
               rw [hl6_2] at HO_6
               (try simp only [hl6_2])
               cases gk with
               | zero => exact absurd HA.out (by simp [sexp_sound.l1])
               | succ k2 =>
                have H := HA.out
                clear HA
                simp only [sexp_sound.l1] at H
                by_cases c30 : x62_2 < (((rd_T56 l0 x7_1).f2).length : Int)
                ·rw [if_pos c30] at H
                 have c30b0 : decide (x62_2 < (((rd_T56 l0 x7_1).f2).length : Int)) = true := decide_eq_true c30
                 clear c30
                 by_cases c31 : 0 ≤ x62_2
                 ·rw [if_pos c31] at H
                  have c31b0 : decide (0 ≤ x62_2) = true := decide_eq_true c31
                  clear c31
                  by_cases c32 : x62_2 < (((rd_T56 l0 x7_1).f2).length : Int)
                  ·rw [if_pos c32] at H
                   have c32b0 : decide (x62_2 < (((rd_T56 l0 x7_1).f2).length : Int)) = true := decide_eq_true c32
                   clear c32
                   by_cases c33 : (rd ((rd_T56 l0 x7_1).f2) x62_2) < 0
                   ·rw [if_pos c33] at H
                    have c33b0 : decide ((rd ((rd_T56 l0 x7_1).f2) x62_2) < 0) = true := decide_eq_true c33
                    clear c33
                    simp only [Option.some.injEq, Prod.mk.injEq] at H
                    obtain ⟨rfl, rfl⟩ := H
                    have p260 : 0 ≤ (x62_2 : Int) := of_decide_eq_true (by assumption)
                    have q260 : x62_2 < (((rd_T56 l0 x7_1).f2).length : Int) := of_decide_eq_true (by assumption)
                    obtain ⟨ad260, e260, hx260_0⟩ := Kd.at_int HR259_6.out x62_2 p260 q260
                    cases e260
                    replace hx260_0 := (HB.out.cell (World.block_lt_of_cell? w _ hx260_0)).trans hx260_0
                    replace p260 := eq_true p260
                    replace q260 := eq_true q260
                    go_wp2
                    go_ret2
                    exact ⟨_, by rfl, by exact Kd.R_nil _ _ _ _ _, by exact HB.out⟩
                   ·rw [if_neg c33] at H
                    have c33b0 : decide ((rd ((rd_T56 l0 x7_1).f2) x62_2) < 0) = false := decide_eq_false c33
                    clear c33
                    by_cases c34 : (rd ((rd_T56 l0 x7_1).f2) x62_2) ≥ x7_1
                    ·rw [if_pos c34] at H
                     have c34b0 : decide (x7_1 ≤ (rd ((rd_T56 l0 x7_1).f2) x62_2)) = true := decide_eq_true c34
                     clear c34
                     simp only [Option.some.injEq, Prod.mk.injEq] at H
                     obtain ⟨rfl, rfl⟩ := H
                     have p260 : 0 ≤ (x62_2 : Int) := of_decide_eq_true (by assumption)
                     have q260 : x62_2 < (((rd_T56 l0 x7_1).f2).length : Int) := of_decide_eq_true (by assumption)
                     obtain ⟨ad260, e260, hx260_0⟩ := Kd.at_int HR259_6.out x62_2 p260 q260
                     cases e260
                     replace hx260_0 := (HB.out.cell (World.block_lt_of_cell? w _ hx260_0)).trans hx260_0
                     replace p260 := eq_true p260
                     replace q260 := eq_true q260
                     go_wp2
                     go_ret2
                     exact ⟨_, by rfl, by exact Kd.R_nil _ _ _ _ _, by exact HB.out⟩
                    ·rw [if_neg c34] at H
                     have c34b0 : decide (x7_1 ≤ (rd ((rd_T56 l0 x7_1).f2) x62_2)) = false := decide_eq_false c34
                     clear c34
                     by_cases c35 : 0 ≤ (rd ((rd_T56 l0 x7_1).f2) x62_2)
                     ·rw [if_pos c35] at H
                      have c35b0 : decide (0 ≤ (rd ((rd_T56 l0 x7_1).f2) x62_2)) = true := decide_eq_true c35
                      clear c35
                      by_cases c36 : (rd ((rd_T56 l0 x7_1).f2) x62_2) < (x6_2.length : Int)
                      ·rw [if_pos c36] at H
                       have c36b0 : decide ((rd ((rd_T56 l0 x7_1).f2) x62_2) < (x6_2.length : Int)) = true := decide_eq_true c36
                       clear c36
                       obtain ⟨y261, hy261⟩ : ∃ y_ : List Bool, y_ = (x6_2.set ((rd ((rd_T56 l0 x7_1).f2) x62_2) : Int).toNat true) := ⟨_, rfl⟩
                       replace H : (sexp_sound.l1 k2 l0 y261 x7_1 ((rd_T56 l0 x7_1).f2) (((rd_T56 l0 x7_1).f2).length : Int) (wrap64 (x62_2 + 1))) = some (r1, r2) := by ((rw [hy261]; with_reducible exact H))
                       have Ny261 := Aside0.mk hy261
                       clear hy261
                       have H' := Aside0.mk H
                       clear H
                       have p260 : 0 ≤ (x62_2 : Int) := of_decide_eq_true (by assumption)
                       have q260 : x62_2 < (((rd_T56 l0 x7_1).f2).length : Int) := of_decide_eq_true (by assumption)
                       obtain ⟨ad260, e260, hx260_0⟩ := Kd.at_int HR259_6.out x62_2 p260 q260
                       cases e260
                       replace hx260_0 := (HB.out.cell (World.block_lt_of_cell? w _ hx260_0)).trans hx260_0
                       replace p260 := eq_true p260
                       replace q260 := eq_true q260
                       have p37 : 0 ≤ ((rd ((rd_T56 l0 x7_1).f2) x62_2) : Int) := of_decide_eq_true (by assumption)
                       have q37 : ((rd ((rd_T56 l0 x7_1).f2) x62_2) : Int) < ((x6_2.length : Int) : Int) := of_decide_eq_true (by assumption)
                       obtain ⟨hx37_0, hf37_0⟩ := Kd.R_celln false HO_6.out ((rd ((rd_T56 l0 x7_1).f2) x62_2) : Int) p37 q37
                       replace p37 := eq_true p37
                       replace q37 := eq_true q37
                       have HP38 := Kd.R_putg HO_6.out ((rd ((rd_T56 l0 x7_1).f2) x62_2) : Int) true
                       go_wp2_with ((((with_reducible refine gate_store (t := 4) (p := 75) rfl ?_); refine store_event (t := 4) (p := 75) (v := ?vo_w39) (w1 := (wr.setCell ⟨go8, ((rd ((rd_T56 l0 x7_1).f2) x62_2) : Int).toNat, none⟩ (.bool true))) ?hg ?ho ?hn ?hr ?_; (case ho => rfl); (case hg => rfl); (case hn => rfl); (case hr => ((go_simp; done))); intro w39 hw; have hg : wr.grownBy w39 (some go8) := (by rw [hw]; exact HP38.2); have hp_ : Kd.R Kd.bool 4 w39 w.heap.size (fun _ => True) (.slice (some ⟨go8, 0, none⟩) x6_2.length co8) y261 := (by rw [hw, Ny261.out]; exact HP38.1); clear HP38; have n0_ := Aside0.mk (hp_); have n1_ := Aside0.mk ((by rw [hw]; exact below_set (HB.out) GB8.out : Below w.heap.size w w39)); clear HO_6; clear HB; have HO_6 := n0_; have HB := n1_; clear n0_ n1_; clear hg hw hp_)))
                       (try simp only [← hl6_2])
                       go_roundg k2
                       case measure => have := HK1.out; have := HK2.out; omega
                       case rel => exact ⟨(y261), (wrap64 (x62_2 + 1)), (by rfl), H', ⟨by have := HK1.out; have := HK2.out; omega⟩, ⟨by (try simp only [hl6_2]); exact HO_6.out⟩, ⟨by exact HB.out⟩⟩
                      ·rw [if_neg c36] at H
                       exact absurd H (by simp)
                     ·rw [if_neg c35] at H
                      exact absurd H (by simp)
                  ·rw [if_neg c32] at H
                   exact absurd H (by simp)
                 ·rw [if_neg c31] at H
                  exact absurd H (by simp)
                ·rw [if_neg c30] at H
                 have c30b0 : decide (x62_2 < (((rd_T56 l0 x7_1).f2).length : Int)) = false := decide_eq_false c30
                 clear c30
                 have H' := Aside0.mk H
                 clear H
                 go_wp2
                 (try simp only [← hl6_1, ← hl6_2])
                 go_roundg k2
                 case measure => have := HK1.out; have := HK2.out; omega
                 case rel => exact ⟨(x6_2), (wrap64 (x7_1 - 1)), (by rfl), H', ⟨by have := HK1.out; have := HK2.out; omega⟩, ⟨by (try simp only [hl6_1]); (try simp only [hl6_2]); exact HO_6.out⟩, ⟨by exact HB.out⟩⟩
             ·rw [if_neg c29] at H
              have c29b0 : (((rd_T56 l0 x7_1).f0) == 2) = false := beq_eq_false_iff_ne.mpr c29
              have c29b1 : (((rd_T56 l0 x7_1).f0) != 2) = true := bne_iff_ne.mpr c29
              simp only [Option.some.injEq, Prod.mk.injEq] at H
              obtain ⟨rfl, rfl⟩ := H
              have p252 : 0 ≤ (x7_1 : Int) := of_decide_eq_true (by assumption)
              have q252 : x7_1 < (x6_1.length : Int) := of_decide_eq_true (by assumption)
              obtain ⟨ad252, e252, hx252_0⟩ := Kd.at_bool (Kd.R_reads' HO_6.out).2.2 x7_1 p252 q252
              (try rw [← Nbq16.out] at hx252_0)
              obtain rfl : (⟨go8, 0, none⟩ : Addr) = ad252 := (by injection e252)
              (simp only [add_plain] at hx252_0)
              replace p252 := eq_true p252
              replace q252 := eq_true q252
              have p253 : 0 ≤ (x7_1 : Int) := of_decide_eq_true (by assumption)
              have q253 : x7_1 < (l0.length : Int) := of_decide_eq_true (by assumption)
              obtain ⟨ad253, A253_6, c253_6, e253, hx253_0, hx253_1, hx253_2, hx253_3, hx253_4, hx253_5, hx253_6, hl253_6, hi253_6⟩ := at_T56 HR0.out x7_1 p253 q253
              skip
              cases e253
              replace hx253_0 := (HB.out.cell (World.block_lt_of_cell? w _ hx253_0)).trans hx253_0
              replace hx253_1 := (HB.out.cell (World.block_lt_of_cell? w _ hx253_1)).trans hx253_1
              replace hx253_2 := (HB.out.cell (World.block_lt_of_cell? w _ hx253_2)).trans hx253_2
              replace hx253_3 := (HB.out.cell (World.block_lt_of_cell? w _ hx253_3)).trans hx253_3
              replace hx253_4 := (HB.out.cell (World.block_lt_of_cell? w _ hx253_4)).trans hx253_4
              replace hx253_5 := (HB.out.cell (World.block_lt_of_cell? w _ hx253_5)).trans hx253_5
              replace hx253_6 := (HB.out.cell (World.block_lt_of_cell? w _ hx253_6)).trans hx253_6
              have HR253_6 := Aside0.mk hi253_6
              have HC253_6 := Aside0.mk hl253_6
              clear hi253_6 hl253_6
              replace p253 := eq_true p253
              replace q253 := eq_true q253
              go_wp2
              go_ret2
              exact ⟨_, by rfl, by exact Kd.R_nil _ _ _ _ _, by exact HB.out⟩
           ·rw [if_neg c18] at H
            exact absurd H (by simp)
          ·replace c17 := Bool.eq_false_iff.mpr c17
           subst c17
           have H1 : (sexp_sound.l0 k1 l0 x6_1 (wrap64 (x7_1 - 1))) = some (r1, r2) := by rw [if_neg (show ¬ (false = true) by decide)] at H; exact H
           clear H
           have H := H1
           clear H1
           have H' := Aside0.mk H
           clear H
           have p252 : 0 ≤ (x7_1 : Int) := of_decide_eq_true (by assumption)
           have q252 : x7_1 < (x6_1.length : Int) := of_decide_eq_true (by assumption)
           obtain ⟨ad252, e252, hx252_0⟩ := Kd.at_bool (Kd.R_reads' HO_6.out).2.2 x7_1 p252 q252
           (try rw [← Nbq16.out] at hx252_0)
           obtain rfl : (⟨go8, 0, none⟩ : Addr) = ad252 := (by injection e252)
           (simp only [add_plain] at hx252_0)
           replace p252 := eq_true p252
           replace q252 := eq_true q252
           go_wp2
           (try simp only [← hl6_1])
           go_roundg k1
           case measure => have := HK1.out; omega
           case rel => exact ⟨(x6_1), (wrap64 (x7_1 - 1)), (by rfl), H', ⟨by have := HK1.out; omega⟩, ⟨by (try simp only [hl6_1]); exact HO_6.out⟩, ⟨by exact HB.out⟩⟩
         ·rw [if_neg c15] at H
          exact absurd H (by simp)
        ·rw [if_neg c14] at H
         exact absurd H (by simp)
       ·rw [if_neg c13] at H
        have c13b0 : decide (0 ≤ x7_1) = false := decide_eq_false c13
        clear c13
        simp only [Option.some.injEq, Prod.mk.injEq] at H
        obtain ⟨rfl, rfl⟩ := H
        go_wp2
        go_ret2
        exact ⟨_, by rfl, by exact HO_6.out, by exact HB.out⟩
    ·rw [if_neg c7] at H
     exact absurd H (by simp)
   ·rw [if_neg c6] at H
    exact absurd H (by simp)
  ·rw [if_neg c5] at H
   exact absurd H (by simp)
 ·rw [if_neg c4] at H
  exact absurd H (by simp)

/-! ### sexp_asked: function 43 -/
def sexp_asked.j0 : Nat → List (S56) → Int → Bool → Option (List Bool × Int)
 | 0, _, _, _ => none
 | k + 1, x0, x1, x15 => if x15 = true then (some (([] : List Bool), 1)) else ((sexp_sound.f k x0 x1).bind fun bt262 => (if bt262.2 = true then (some (bt262.1, 0)) else (some (([] : List Bool), 73))))
def sexp_asked.f (k : Nat) (l0 : List (S56)) (a1 : Int) : Option (List Bool × Int) := if a1 < 0 then (sexp_asked.j0 k l0 a1 true) else (sexp_asked.j0 k l0 a1 (decide (a1 ≥ (l0.length : Int))))
theorem sexp_asked.mono_l : ∀ k, (∀ y0 y1 y2, LeO (sexp_asked.j0 k y0 y1 y2) (sexp_asked.j0 (k + 1) y0 y1 y2))
 | 0 => fun _ _ _ r h => by simp [sexp_asked.j0] at h
 | k + 1 => by
  have ih0 := sexp_asked.mono_l k
  ·intro y0 y1 y2
   unfold sexp_asked.j0
   repeat' first
   | (with_reducible exact sexp_sound.mono _ _ _)
   | (with_reducible exact LeO.refl _)
   | (with_reducible refine LeO.ite ?_ ?_)
   | (with_reducible refine LeO.bind ?_ (fun _ => ?_))
theorem sexp_asked.mono : ∀ a0 a1 k, LeO (sexp_asked.f k a0 a1) (sexp_asked.f (k + 1) a0 a1) := by
 intro a0 a1 k
 have ih0 := sexp_asked.mono_l k
 unfold sexp_asked.f
 repeat' first
  | (with_reducible exact ih0 _ _ _)
  | (with_reducible refine LeO.ite ?_ ?_)
set_option maxHeartbeats 8000000 in
set_option maxRecDepth 100000 in
theorem sexp_asked.calls (k : Nat) (A0 : Option Addr) (c0 : Nat) (l0 : List (S56)) (a1 : Int) (r1 : List Bool) (r2 : Int) (w : World) (hr0 : Kd.C k56 w A0 l0.length l0) (hc0 : l0.length ≤ c0) (h : sexp_asked.f k l0 a1 = some (r1, r2)) :
 Calls Tryz.prog 27 #[.slice A0 l0.length c0, .int .i64 a1] w fun e w' => ∃ v0_ : Value, e = .returned (.tuple #[v0_, .int .i64 r2]) ∧ Kd.R Kd.bool 4 w' w.heap.size (fun _ => True) v0_ r1 ∧ Below w.heap.size w w' := by
 have HR0 := Aside0.mk hr0
 have HC0 := Aside0.mk hc0
 clear hr0 hc0
 have HB := Aside0.mk (Below.refl w.heap.size w)
 have H : (if a1 < 0 then (sexp_asked.j0 k l0 a1 true) else (sexp_asked.j0 k l0 a1 (decide (a1 ≥ (l0.length : Int))))) = some (r1, r2) := h
 clear h
 have HC3 := Aside0.mk H
 clear H
 go_enter Tryz.func27, Tryz.ntmps27
 go_upto_region 1 with (fail)
 go_cut [15] (fun v15 wc => ∃ (kq : Nat) (x15_2 : Bool), v15 = .bool x15_2 ∧ Aside0 (sexp_asked.j0 kq l0 a1 x15_2 = some (r1, r2)) ∧ Aside0 (kq ≤ k) ∧ Aside0 (Below w.heap.size w wc))
 case first =>
  have H := HC3.out
  clear HC3
  by_cases c4 : a1 < 0
  ·rw [if_pos c4] at H
   have c4b0 : decide (a1 < 0) = true := decide_eq_true c4
   clear c4
   (skip)
   have H' := Aside0.mk H
   clear H
   go_wp2
   go_meet
   case rel => exact ⟨_, (true), (by rfl), H', ⟨by omega⟩, ⟨by exact HB.out⟩⟩
  ·rw [if_neg c4] at H
   have c4b0 : decide (a1 < 0) = false := decide_eq_false c4
   clear c4
   (skip)
   have H' := Aside0.mk H
   clear H
   go_wp2
   go_meet
   case rel => exact ⟨_, (decide (a1 ≥ (l0.length : Int))), (by rfl), H', ⟨by omega⟩, ⟨by exact HB.out⟩⟩
 case rest =>
  clear HC3
  obtain ⟨kq, x15_2, rfl, HA, HJ2, HB⟩ := hcut
  cases kq with
  | zero => exact absurd HA.out (by simp [sexp_asked.j0])
  | succ kj2 =>
   have H := HA.out
   clear HA
   simp only [sexp_asked.j0] at H
   by_cases c5 : x15_2 = true
   ·subst c5
    have H1 : (some (([] : List Bool), 1)) = some (r1, r2) := by rw [if_pos rfl] at H; exact H
    clear H
    have H := H1
    clear H1
    simp only [Option.some.injEq, Prod.mk.injEq] at H
    obtain ⟨rfl, rfl⟩ := H
    go_wp2
    go_ret2
    exact ⟨_, by rfl, by exact Kd.R_nil _ _ _ _ _, by exact HB.out⟩
   ·replace c5 := Bool.eq_false_iff.mpr c5
    subst c5
    have H1 : ((sexp_sound.f kj2 l0 a1).bind fun bt262 => (if bt262.2 = true then (some (bt262.1, 0)) else (some (([] : List Bool), 73)))) = some (r1, r2) := by rw [if_neg (show ¬ (false = true) by decide)] at H; exact H
    clear H
    have H := H1
    clear H1
    replace H := Option.bind_eq_some_iff.mp H
    obtain ⟨⟨t262, t263⟩, A60, H⟩ := H
    replace H : (if t263 = true then (some (t262, 0)) else (some (([] : List Bool), 73))) = some (r1, r2) := H
    have A6 := Aside0.mk A60
    clear A60
    by_cases c7 : t263 = true
    ·subst c7
     have H1 : (some (t262, 0)) = some (r1, r2) := by rw [if_pos rfl] at H; exact H
     clear H
     have H := H1
     clear H1
     simp only [Option.some.injEq, Prod.mk.injEq] at H
     obtain ⟨rfl, rfl⟩ := H
     go_wp2_with ((((with_reducible refine gate_callee (f := 49) rfl ?_); refine goesL_ (some 19) rfl rfl Tryz.func49 (by kernel_rfl) rfl #[.slice A0 l0.length c0, .int .i64 a1] rfl (by (try simp only [List.map_toArray, List.map_cons, List.map_nil]); rfl) ?_; (with_reducible refine (sexp_sound.calls kj2 _ _ l0 a1 t262 true _ ?side1 ?side2 A6.out).mono ?_); (case side1 => repeat (exact (Kd.C_below HR0.out HB.out))); (case side2 => exact HC0.out); rintro e w8 ⟨v264, rfl, ho0, hb⟩; refine ⟨_, rfl, ?_⟩; have n0_ := Aside0.mk (Kd.R_lower ho0 (below_size (by exact HB.out))); have n1_ := Aside0.mk (below_step (by exact HB.out) hb); clear HB; have HO265 := n0_; have HB := n1_; clear n0_ n1_; (try clear hb); (try clear ho0))))
     go_ret2
     exact ⟨_, by rfl, by exact HO265.out, by exact HB.out⟩
    ·replace c7 := Bool.eq_false_iff.mpr c7
     subst c7
     have H1 : (some (([] : List Bool), 73)) = some (r1, r2) := by rw [if_neg (show ¬ (false = true) by decide)] at H; exact H
     clear H
     have H := H1
     clear H1
     simp only [Option.some.injEq, Prod.mk.injEq] at H
     obtain ⟨rfl, rfl⟩ := H
     go_wp2_with ((((with_reducible refine gate_callee (f := 49) rfl ?_); refine goesL_ (some 19) rfl rfl Tryz.func49 (by kernel_rfl) rfl #[.slice A0 l0.length c0, .int .i64 a1] rfl (by (try simp only [List.map_toArray, List.map_cons, List.map_nil]); rfl) ?_; (with_reducible refine (sexp_sound.calls kj2 _ _ l0 a1 t262 false _ ?side1 ?side2 A6.out).mono ?_); (case side1 => repeat (exact (Kd.C_below HR0.out HB.out))); (case side2 => exact HC0.out); rintro e w9 ⟨v264, rfl, ho0, hb⟩; refine ⟨_, rfl, ?_⟩; have n0_ := Aside0.mk (Kd.R_lower ho0 (below_size (by exact HB.out))); have n1_ := Aside0.mk (below_step (by exact HB.out) hb); clear HB; have HO265 := n0_; have HB := n1_; clear n0_ n1_; (try clear hb); (try clear ho0))))
     go_ret2
     exact ⟨_, by rfl, by exact Kd.R_nil _ _ _ _ _, by exact HB.out⟩

/-! ### sexp_Depth: function 30 -/
mutual
def sexp_Depth.l0 : Nat → List (S56) → Int → List Int → List Bool → Int → Int → Option (Int × Int)
 | 0, _, _, _, _, _, _ => none
 | k + 1, x0, x1, x8, x25, x26, x27 => if x27 < x26 then (if 0 ≤ x27 then (if x27 < (x25.length : Int) then (if rdOf false x25 x27 = true then (if x27 < (x0.length : Int) then (sexp_Depth.j1 k x0 x1 x8 x27 x25 x26 x27 (((rd_T56 x0 x27).f0) == 1)) else (none)) else (sexp_Depth.j1 k x0 x1 x8 x27 x25 x26 x27 true)) else (none)) else (none)) else (if 0 ≤ x1 then (if x1 < (x8.length : Int) then (some (rd x8 x1, 0)) else (none)) else (none))
def sexp_Depth.j1 : Nat → List (S56) → Int → List Int → Int → List Bool → Int → Int → Bool → Option (Int × Int)
 | 0, _, _, _, _, _, _, _, _ => none
 | k + 1, x0, x1, x8, x9, x25, x26, x27, x41 => if x41 = true then (sexp_Depth.l0 k x0 x1 x8 x25 x26 (wrap64 (x27 + 1))) else (if 0 ≤ x9 then (if x9 < (x8.length : Int) then (if x9 < (x0.length : Int) then (sexp_Depth.l1 k x0 x1 (x8.set (x9 : Int).toNat 1) x9 x25 x26 x27 ((rd_T56 x0 x9).f2) (((rd_T56 x0 x9).f2).length : Int) 0) else (none)) else (none)) else (none))
def sexp_Depth.l1 : Nat → List (S56) → Int → List Int → Int → List Bool → Int → Int → List Int → Int → Int → Option (Int × Int)
 | 0, _, _, _, _, _, _, _, _, _, _ => none
 | k + 1, x0, x1, x8, x9, x25, x26, x27, x49, x50, x51 => if x51 < x50 then (if 0 ≤ x51 then (if x51 < (x49.length : Int) then (if 0 ≤ x9 then (if x9 < (x8.length : Int) then (if 0 ≤ (rd x49 x51) then (if (rd x49 x51) < (x8.length : Int) then (sexp_Depth.l1 k x0 x1 (x8.set (x9 : Int).toNat (mx (rd x8 x9) (wrap64 ((rd x8 (rd x49 x51)) + 1)))) x9 x25 x26 x27 x49 x50 (wrap64 (x51 + 1))) else (none)) else (none)) else (none)) else (none)) else (none)) else (none)) else (sexp_Depth.l0 k x0 x1 x8 x25 x26 (wrap64 (x27 + 1)))
end
def sexp_Depth.f (k : Nat) (l0 : List (S56)) (a1 : Int) : Option (Int × Int) := (sexp_asked.f k l0 a1).bind fun bt266 => (if bt266.2 = 0 then (if 0 ≤ (bt266.1.length : Int) then (if ((bt266.1.length : Int) : Int).toNat ≤ 35184372088832 then (sexp_Depth.l0 k l0 a1 (List.replicate ((bt266.1.length : Int) : Int).toNat 0) bt266.1 (bt266.1.length : Int) 0) else (none)) else (none)) else (some (0, bt266.2)))
theorem sexp_Depth.mono_l : ∀ k, (∀ y0 y1 y2 y3 y4 y5, LeO (sexp_Depth.l0 k y0 y1 y2 y3 y4 y5) (sexp_Depth.l0 (k + 1) y0 y1 y2 y3 y4 y5)) ∧ (∀ y0 y1 y2 y3 y4 y5 y6 y7, LeO (sexp_Depth.j1 k y0 y1 y2 y3 y4 y5 y6 y7) (sexp_Depth.j1 (k + 1) y0 y1 y2 y3 y4 y5 y6 y7)) ∧ (∀ y0 y1 y2 y3 y4 y5 y6 y7 y8 y9, LeO (sexp_Depth.l1 k y0 y1 y2 y3 y4 y5 y6 y7 y8 y9) (sexp_Depth.l1 (k + 1) y0 y1 y2 y3 y4 y5 y6 y7 y8 y9))
 | 0 => ⟨fun _ _ _ _ _ _ r h => by simp [sexp_Depth.l0] at h, fun _ _ _ _ _ _ _ _ r h => by simp [sexp_Depth.j1] at h, fun _ _ _ _ _ _ _ _ _ _ r h => by simp [sexp_Depth.l1] at h⟩
 | k + 1 => by
  obtain ⟨ih0, ih1, ih2⟩ := sexp_Depth.mono_l k
  refine ⟨?_, ?_, ?_⟩
  ·intro y0 y1 y2 y3 y4 y5
   unfold sexp_Depth.l0
   repeat' first
   | (with_reducible exact ih1 _ _ _ _ _ _ _ _)
   | (with_reducible exact LeO.refl _)
   | (with_reducible refine LeO.ite ?_ ?_)
  ·intro y0 y1 y2 y3 y4 y5 y6 y7
   unfold sexp_Depth.j1
   repeat' first
   | (with_reducible exact ih0 _ _ _ _ _ _)
   | (with_reducible exact ih2 _ _ _ _ _ _ _ _ _ _)
   | (with_reducible exact LeO.refl _)
   | (with_reducible refine LeO.ite ?_ ?_)
  ·intro y0 y1 y2 y3 y4 y5 y6 y7 y8 y9
   unfold sexp_Depth.l1
   repeat' first
   | (with_reducible exact ih0 _ _ _ _ _ _)
   | (with_reducible exact ih2 _ _ _ _ _ _ _ _ _ _)
   | (with_reducible exact LeO.refl _)
   | (with_reducible refine LeO.ite ?_ ?_)
theorem sexp_Depth.mono : ∀ a0 a1 k, LeO (sexp_Depth.f k a0 a1) (sexp_Depth.f (k + 1) a0 a1) := by
 intro a0 a1 k
 obtain ⟨ih0, ih1, ih2⟩ := sexp_Depth.mono_l k
 unfold sexp_Depth.f
 repeat' first
  | (with_reducible exact ih0 _ _ _ _ _ _)
  | (with_reducible exact sexp_asked.mono _ _ _)
  | (with_reducible exact LeO.refl _)
  | (with_reducible refine LeO.ite ?_ ?_)
  | (with_reducible refine LeO.bind ?_ (fun _ => ?_))
def sexp_Depth.T13 : Bool × List (List Nat × List Nat) := (true, [([], []), ([], []), ([], []), ([], []), ([2, 3], [2, 3]), ([4], [4]), ([], []), ([], []), ([6, 7], [6, 7]), ([8], [8]), ([9], [9]), ([5, 10], [5, 10]), ([0, 1, 0, 1, 2, 3, 4, 5, 6, 7, 8, 9, 10, 11], [0, 1]), ([12, 11, 0, 1, 2, 3, 4, 5, 6, 7, 8, 9, 10, 11], [11, 12])])
def sexp_Depth.B13 : List Nat := [0, 0, 0, 0, 12, 28, 0, 0, 192, 448, 960, 2044, 4095, 8191]
theorem sexp_Depth.tab13 : rtab .any (opsOf Tryz.f9 13) = sexp_Depth.T13 := by kernel_rfl
theorem sexp_Depth.bits13 : waitsOk sexp_Depth.T13.2 sexp_Depth.B13 = true := by kernel_rfl
set_option maxHeartbeats 8000000 in
set_option maxRecDepth 100000 in
theorem sexp_Depth.calls (k : Nat) (A0 : Option Addr) (c0 : Nat) (l0 : List (S56)) (a1 : Int) (r1 : Int) (r2 : Int) (w : World) (hr0 : Kd.C k56 w A0 l0.length l0) (hc0 : l0.length ≤ c0) (h : sexp_Depth.f k l0 a1 = some (r1, r2)) :
 Calls Tryz.prog 9 #[.slice A0 l0.length c0, .int .i64 a1] w fun e w' => e = .returned (.tuple #[.int .i64 r1, .int .i64 r2]) ∧ Below w.heap.size w w' := by
 have HR0 := Aside0.mk hr0
 have HC0 := Aside0.mk hc0
 clear hr0 hc0
 have HB := Aside0.mk (Below.refl w.heap.size w)
 have H : ((sexp_asked.f k l0 a1).bind fun bt266 => (if bt266.2 = 0 then (if 0 ≤ (bt266.1.length : Int) then (if ((bt266.1.length : Int) : Int).toNat ≤ 35184372088832 then (sexp_Depth.l0 k l0 a1 (List.replicate ((bt266.1.length : Int) : Int).toNat 0) bt266.1 (bt266.1.length : Int) 0) else (none)) else (none)) else (some (0, bt266.2)))) = some (r1, r2) := h
 clear h
 replace H := Option.bind_eq_some_iff.mp H
 obtain ⟨⟨t266, t267⟩, A30, H⟩ := H
 replace H : (if t267 = 0 then (if 0 ≤ (t266.length : Int) then (if ((t266.length : Int) : Int).toNat ≤ 35184372088832 then (sexp_Depth.l0 k l0 a1 (List.replicate ((t266.length : Int) : Int).toNat 0) t266 (t266.length : Int) 0) else (none)) else (none)) else (some (0, t267))) = some (r1, r2) := H
 have A3 := Aside0.mk A30
 clear A30
 by_cases c4 : t267 = 0
 ·rw [if_pos c4] at H
  have c4b0 : (t267 == 0) = true := beq_iff_eq.mpr c4
  have c4b1 : (t267 != 0) = false := bne_eq_false_iff_eq.mpr c4
  clear c4
  by_cases c5 : 0 ≤ (t266.length : Int)
  ·rw [if_pos c5] at H
   have c5b0 := eq_true c5
   have c5b1 : decide (0 ≤ (t266.length : Int)) = true := decide_eq_true c5
   clear c5
   by_cases c6 : ((t266.length : Int) : Int).toNat ≤ 35184372088832
   ·rw [if_pos c6] at H
    have c6b0 := eq_true c6
    have c6b1 : decide (((t266.length : Int) : Int).toNat ≤ 35184372088832) = true := decide_eq_true c6
    clear c6
    obtain ⟨y270, hy270⟩ : ∃ y_ : List Int, y_ = (List.replicate ((t266.length : Int) : Int).toNat 0) := ⟨_, rfl⟩
    replace H : (sexp_Depth.l0 k l0 a1 y270 t266 (t266.length : Int) 0) = some (r1, r2) := by ((rw [hy270]; with_reducible exact H))
    have Ny270 := Aside0.mk hy270
    clear hy270
    have H' := Aside0.mk H
    clear H
    go_enter Tryz.func9, Tryz.ntmps9
    go_wp2_with (first | ((with_reducible refine gate_callee (f := 27) rfl ?_); refine goesL_ (some 16) rfl rfl Tryz.func27 (by kernel_rfl) rfl #[.slice A0 l0.length c0, .int .i64 a1] rfl (by (try simp only [List.map_toArray, List.map_cons, List.map_nil]); rfl) ?_; (with_reducible refine (sexp_asked.calls k _ _ l0 a1 t266 t267 _ ?side1 ?side2 A3.out).mono ?_); (case side1 => repeat (exact HR0.out)); (case side2 => exact HC0.out); rintro e w7 ⟨v268, rfl, ho0, hb⟩; refine ⟨_, rfl, ?_⟩; have n0_ := Aside0.mk (Kd.R_lower ho0 (below_size (by exact HB.out))); have n1_ := Aside0.mk (below_step (by exact HB.out) hb); clear HB; have HO269 := n0_; have HB := n1_; clear n0_ n1_; (try clear hb); (try clear ho0); obtain ⟨Ao8, co8, eo8⟩ := Kd.R_slice HO269.out; subst eo8) | ((with_reducible refine gate_dst (N := 24) rfl ?_); refine Kd.R_make (Kd.int .i64) _ 3 rfl (N := 24) rfl 31 _ _ rfl (t266.length : Int) rfl rfl Tryz.underlying31 (.int .i64 0) 8 info3 rfl (by decide) (by omega) 0 (ok := fun _ => True) (okp := fun _ => True) rfl (fun _ hk => hk) trivial (of_decide_eq_true (by assumption)) (Nat.le_trans (Nat.mul_le_mul_right _ (of_decide_eq_true (by assumption) : (t266.length : Int).toNat ≤ 35184372088832)) (by omega)) (Below.refl _ _) (Nat.le_refl _) ?_; intro v271 w9 ho10 hb hg_ hnew_; clear hg_ hnew_; (rw [← Ny270.out] at ho10); have n0_ := Aside0.mk (Kd.R_below (by exact HO269.out) hb); have n1_ := Aside0.mk (Kd.R_lower ho10 (below_size (by exact HB.out))); have n2_ := Aside0.mk (below_step (by exact HB.out) hb); clear HO269; clear HB; have HO269 := n0_; have HO272 := n1_; have HB := n2_; clear n0_ n1_ n2_; clear hb ho10))
    go_loopg [27] k (fun kq v27 w' => ∃ (x8_1 : List Int) (x27_1 : Int), v27 = .int .i64 x27_1 ∧ Aside0 (sexp_Depth.l0 kq l0 a1 x8_1 t266 (t266.length : Int) x27_1 = some (r1, r2)) ∧ Aside0 (kq ≤ k) ∧ Aside0 (Kd.R (Kd.int .i64) 3 w' w.heap.size (fun _ => True) v271 x8_1) ∧ Aside0 (Kd.R Kd.bool 4 w' w.heap.size (fun _ => True) (.slice Ao8 t266.length co8) t266) ∧ Aside0 (Below w.heap.size w w'))
    case atStart => exact ⟨(y270), (0), (by rfl), H', ⟨Nat.le_refl _⟩, ⟨by exact HO272.out⟩, ⟨by exact HO269.out⟩, ⟨by exact HB.out⟩⟩
    case round =>
     clear H'
     obtain ⟨x8_1, x27_1, rfl, HA, HK1, HO_8, HO_25, HB⟩ := hrel
     cases gk with
     | zero => exact absurd HA.out (by simp [sexp_Depth.l0])
     | succ k1 =>
      have H := HA.out
      clear HA
      simp only [sexp_Depth.l0] at H
      by_cases c11 : x27_1 < (t266.length : Int)
      ·rw [if_pos c11] at H
       have c11b0 : decide (x27_1 < (t266.length : Int)) = true := decide_eq_true c11
       clear c11
       by_cases c12 : 0 ≤ x27_1
       ·rw [if_pos c12] at H
        have c12b0 : decide (0 ≤ x27_1) = true := decide_eq_true c12
        clear c12
        by_cases c13 : x27_1 < (t266.length : Int)
        ·rw [if_pos c13] at H
         have c13b0 : decide (x27_1 < (t266.length : Int)) = true := decide_eq_true c13
         clear c13
         have HC14 := Aside0.mk H
         clear H
         have p274 : 0 ≤ (x27_1 : Int) := of_decide_eq_true (by assumption)
         have q274 : x27_1 < (t266.length : Int) := of_decide_eq_true (by assumption)
         obtain ⟨ad274, e274, hx274_0⟩ := Kd.at_bool (Kd.R_reads' HO_25.out).2.2 x27_1 p274 q274
         cases e274
         replace p274 := eq_true p274
         replace q274 := eq_true q274
         go_upto_region 8 with (fail)
         obtain ⟨bq15, hbq15⟩ : ∃ b_ : Bool, b_ = (rdOf false t266 x27_1) := ⟨_, rfl⟩
         (try rw [← hbq15])
         have Nbq15 := Aside0.mk hbq15
         clear hbq15
         go_cut [41] (fun v41 wc => ∃ (kq : Nat) (x41_13 : Bool), v41 = .bool x41_13 ∧ Aside0 (sexp_Depth.j1 kq l0 a1 x8_1 x27_1 t266 (t266.length : Int) x27_1 x41_13 = some (r1, r2)) ∧ Aside0 (kq ≤ k1) ∧ Aside0 (Kd.R (Kd.int .i64) 3 wc w.heap.size (fun _ => True) v271 x8_1) ∧ Aside0 (Kd.R Kd.bool 4 wc w.heap.size (fun _ => True) (.slice (some ad274) t266.length co8) t266) ∧ Aside0 (Below w.heap.size w wc))
         case first =>
          have H := HC14.out
          clear HC14
          replace H : (if bq15 = true then (if x27_1 < (l0.length : Int) then (sexp_Depth.j1 k1 l0 a1 x8_1 x27_1 t266 (t266.length : Int) x27_1 (((rd_T56 l0 x27_1).f0) == 1)) else (none)) else (sexp_Depth.j1 k1 l0 a1 x8_1 x27_1 t266 (t266.length : Int) x27_1 true)) = some (r1, r2) := by rw [← Nbq15.out] at H; exact H
          by_cases c16 : bq15 = true
          ·subst c16
           have H1 : (if x27_1 < (l0.length : Int) then (sexp_Depth.j1 k1 l0 a1 x8_1 x27_1 t266 (t266.length : Int) x27_1 (((rd_T56 l0 x27_1).f0) == 1)) else (none)) = some (r1, r2) := by rw [if_pos rfl] at H; exact H
           clear H
           have H := H1
           clear H1
           by_cases c17 : x27_1 < (l0.length : Int)
           ·rw [if_pos c17] at H
            have c17b0 : decide (x27_1 < (l0.length : Int)) = true := decide_eq_true c17
            clear c17
            have H' := Aside0.mk H
            clear H
            have p275 : 0 ≤ (x27_1 : Int) := of_decide_eq_true (by assumption)
            have q275 : x27_1 < (l0.length : Int) := of_decide_eq_true (by assumption)
            obtain ⟨ad275, A275_6, c275_6, e275, hx275_0, hx275_1, hx275_2, hx275_3, hx275_4, hx275_5, hx275_6, hl275_6, hi275_6⟩ := at_T56 HR0.out x27_1 p275 q275
            skip
            cases e275
            replace hx275_0 := (HB.out.cell (World.block_lt_of_cell? w _ hx275_0)).trans hx275_0
            replace hx275_1 := (HB.out.cell (World.block_lt_of_cell? w _ hx275_1)).trans hx275_1
            replace hx275_2 := (HB.out.cell (World.block_lt_of_cell? w _ hx275_2)).trans hx275_2
            replace hx275_3 := (HB.out.cell (World.block_lt_of_cell? w _ hx275_3)).trans hx275_3
            replace hx275_4 := (HB.out.cell (World.block_lt_of_cell? w _ hx275_4)).trans hx275_4
            replace hx275_5 := (HB.out.cell (World.block_lt_of_cell? w _ hx275_5)).trans hx275_5
            replace hx275_6 := (HB.out.cell (World.block_lt_of_cell? w _ hx275_6)).trans hx275_6
            have HR275_6 := Aside0.mk hi275_6
            have HC275_6 := Aside0.mk hl275_6
            clear hi275_6 hl275_6
            replace p275 := eq_true p275
            replace q275 := eq_true q275
            go_wp2
            go_meet
            case rel => exact ⟨_, ((((rd_T56 l0 x27_1).f0) == 1)), (by rfl), H', ⟨by have := HK1.out; omega⟩, ⟨by exact HO_8.out⟩, ⟨by exact HO_25.out⟩, ⟨by exact HB.out⟩⟩
           ·rw [if_neg c17] at H
            exact absurd H (by simp)
          ·replace c16 := Bool.eq_false_iff.mpr c16
           subst c16
           have H1 : (sexp_Depth.j1 k1 l0 a1 x8_1 x27_1 t266 (t266.length : Int) x27_1 true) = some (r1, r2) := by rw [if_neg (show ¬ (false = true) by decide)] at H; exact H
           clear H
           have H := H1
           clear H1
           have H' := Aside0.mk H
           clear H
           go_wp2
           go_meet
           case rel => exact ⟨_, (true), (by rfl), H', ⟨by have := HK1.out; omega⟩, ⟨by exact HO_8.out⟩, ⟨by exact HO_25.out⟩, ⟨by exact HB.out⟩⟩
         case rest =>
          clear HC14
          obtain ⟨kq, x41_13, rfl, HA, HJ13, HO_8, HO_25, HB⟩ := hcut
          cases kq with
          | zero => exact absurd HA.out (by simp [sexp_Depth.j1])
          | succ kj13 =>
           have H := HA.out
           clear HA
           simp only [sexp_Depth.j1] at H
           by_cases c18 : x41_13 = true
           ·subst c18
            have H1 : (sexp_Depth.l0 kj13 l0 a1 x8_1 t266 (t266.length : Int) (wrap64 (x27_1 + 1))) = some (r1, r2) := by rw [if_pos rfl] at H; exact H
            clear H
            have H := H1
            clear H1
            have H' := Aside0.mk H
            clear H
            go_wp2
            go_roundg kj13
            case measure => have := HK1.out; have := HJ13.out; omega
            case rel => exact ⟨(x8_1), (wrap64 (x27_1 + 1)), (by rfl), H', ⟨by have := HK1.out; have := HJ13.out; omega⟩, ⟨by exact HO_8.out⟩, ⟨by exact HO_25.out⟩, ⟨by exact HB.out⟩⟩
           ·replace c18 := Bool.eq_false_iff.mpr c18
            subst c18
            have H1 : (if 0 ≤ x27_1 then (if x27_1 < (x8_1.length : Int) then (if x27_1 < (l0.length : Int) then (sexp_Depth.l1 kj13 l0 a1 (x8_1.set (x27_1 : Int).toNat 1) x27_1 t266 (t266.length : Int) x27_1 ((rd_T56 l0 x27_1).f2) (((rd_T56 l0 x27_1).f2).length : Int) 0) else (none)) else (none)) else (none)) = some (r1, r2) := by rw [if_neg (show ¬ (false = true) by decide)] at H; exact H
            clear H
            have H := H1
            clear H1
            by_cases c19 : 0 ≤ x27_1
            ·rw [if_pos c19] at H
             have c19b0 : decide (0 ≤ x27_1) = true := decide_eq_true c19
             clear c19
             by_cases c20 : x27_1 < (x8_1.length : Int)
             ·rw [if_pos c20] at H
              have c20b0 : decide (x27_1 < (x8_1.length : Int)) = true := decide_eq_true c20
              clear c20
              obtain ⟨y276, hy276⟩ : ∃ y_ : List Int, y_ = (x8_1.set (x27_1 : Int).toNat 1) := ⟨_, rfl⟩
              replace H : (if x27_1 < (l0.length : Int) then (sexp_Depth.l1 kj13 l0 a1 y276 x27_1 t266 (t266.length : Int) x27_1 ((rd_T56 l0 x27_1).f2) (((rd_T56 l0 x27_1).f2).length : Int) 0) else (none)) = some (r1, r2) := by ((rw [hy276]; with_reducible exact H))
              have Ny276 := Aside0.mk hy276
              clear hy276
              by_cases c22 : x27_1 < (l0.length : Int)
              ·rw [if_pos c22] at H
               have c22b0 : decide (x27_1 < (l0.length : Int)) = true := decide_eq_true c22
               clear c22
               have H' := Aside0.mk H
               clear H
               have p21 : 0 ≤ (x27_1 : Int) := of_decide_eq_true (by assumption)
               have q21 : (x27_1 : Int) < ((x8_1.length : Int) : Int) := of_decide_eq_true (by assumption)
               obtain ⟨go21, co21, eo21, gb21, gl21, cl21, HG21⟩ := Kd.R_form HO_8.out (by omega)
               (cases eo21)
               have GB21 := Aside0.mk gb21
               have GG21 := Aside0.mk HG21
               clear gb21 gl21 HG21
               obtain ⟨hx21_0, hf21_0⟩ := Kd.R_celln 0 HO_8.out (x27_1 : Int) p21 q21
               replace p21 := eq_true p21
               replace q21 := eq_true q21
               have HP23 := Kd.R_putg HO_8.out (x27_1 : Int) 1
               go_wp2_with ((((with_reducible refine gate_store (t := 3) (p := 44) rfl ?_); refine store_event (t := 3) (p := 44) (v := ?vo_w24) (w1 := (wc.setCell ⟨go21, (x27_1 : Int).toNat, none⟩ (.int .i64 1))) ?hg ?ho ?hn ?hr ?_; (case ho => rfl); (case hg => rfl); (case hn => rfl); (case hr => ((go_simp; done))); intro w24 hw; have hg : wc.grownBy w24 (some go21) := (by rw [hw]; exact HP23.2); have hp_ : Kd.R (Kd.int .i64) 3 w24 w.heap.size (fun _ => True) (.slice (some ⟨go21, 0, none⟩) x8_1.length co21) y276 := (by rw [hw, Ny276.out]; exact HP23.1); clear HP23; have n0_ := Aside0.mk (hp_); have n1_ := Aside0.mk (Kd.R_over' (v := (.slice (some ⟨go21, 0, none⟩) x8_1.length co21)) (by exact HO_25.out) (Kd.R_typed HO_8.out) (by decide) hg); have n2_ := Aside0.mk ((by rw [hw]; exact below_set (HB.out) GB21.out : Below w.heap.size w w24)); clear HO_8; clear HO_25; clear HB; have HO_8 := n0_; have HO_25 := n1_; have HB := n2_; clear n0_ n1_ n2_; clear hg hw hp_; have p277 : 0 ≤ (x27_1 : Int) := of_decide_eq_true (by assumption); have q277 : x27_1 < (l0.length : Int) := of_decide_eq_true (by assumption); obtain ⟨ad277, A277_6, c277_6, e277, hx277_0, hx277_1, hx277_2, hx277_3, hx277_4, hx277_5, hx277_6, hl277_6, hi277_6⟩ := at_T56 HR0.out x27_1 p277 q277; cases e277; replace hx277_0 := (HB.out.cell (World.block_lt_of_cell? w _ hx277_0)).trans hx277_0; replace hx277_1 := (HB.out.cell (World.block_lt_of_cell? w _ hx277_1)).trans hx277_1; replace hx277_2 := (HB.out.cell (World.block_lt_of_cell? w _ hx277_2)).trans hx277_2; replace hx277_3 := (HB.out.cell (World.block_lt_of_cell? w _ hx277_3)).trans hx277_3; replace hx277_4 := (HB.out.cell (World.block_lt_of_cell? w _ hx277_4)).trans hx277_4; replace hx277_5 := (HB.out.cell (World.block_lt_of_cell? w _ hx277_5)).trans hx277_5; replace hx277_6 := (HB.out.cell (World.block_lt_of_cell? w _ hx277_6)).trans hx277_6; have HR277_6 := Aside0.mk hi277_6; have HC277_6 := Aside0.mk hl277_6; clear hi277_6 hl277_6; replace p277 := eq_true p277; replace q277 := eq_true q277)))
               go_loopg [51] kj13 (fun kq v51 w' => ∃ (x8_3 : List Int) (x51_3 : Int), v51 = .int .i64 x51_3 ∧ Aside0 (sexp_Depth.l1 kq l0 a1 x8_3 x27_1 t266 (t266.length : Int) x27_1 ((rd_T56 l0 x27_1).f2) (((rd_T56 l0 x27_1).f2).length : Int) x51_3 = some (r1, r2)) ∧ Aside0 (kq ≤ kj13) ∧ Aside0 (Kd.R (Kd.int .i64) 3 w' w.heap.size (fun _ => True) (.slice (some ⟨go21, 0, none⟩) x8_1.length co21) x8_3) ∧ Aside0 (Kd.R Kd.bool 4 w' w.heap.size (fun _ => True) (.slice (some ad274) t266.length co8) t266) ∧ Aside0 (Below w.heap.size w w'))
               case atStart => exact ⟨(y276), (0), (by rfl), H', ⟨Nat.le_refl _⟩, ⟨by exact HO_8.out⟩, ⟨by exact HO_25.out⟩, ⟨by exact HB.out⟩⟩
               case round =>
                clear H'
                obtain ⟨x8_3, x51_3, rfl, HA, HK3, HO_8, HO_25, HB⟩ := hrel
                have hl8_3 := (Kd.R_reads' HO_8.out).1
                rw [hl8_3] at HO_8
                (try simp only [hl8_3])
                skip
                cases gk with
                | zero => exact absurd HA.out (by simp [sexp_Depth.l1])
                | succ k3 =>
                 have H := HA.out
                 clear HA
                 simp only [sexp_Depth.l1] at H
                 by_cases c25 : x51_3 < (((rd_T56 l0 x27_1).f2).length : Int)
                 ·rw [if_pos c25] at H
                  have c25b0 : decide (x51_3 < (((rd_T56 l0 x27_1).f2).length : Int)) = true := decide_eq_true c25
                  clear c25
                  by_cases c26 : 0 ≤ x51_3
                  ·rw [if_pos c26] at H
                   have c26b0 : decide (0 ≤ x51_3) = true := decide_eq_true c26
                   clear c26
                   by_cases c27 : x51_3 < (((rd_T56 l0 x27_1).f2).length : Int)
                   ·rw [if_pos c27] at H
                    have c27b0 : decide (x51_3 < (((rd_T56 l0 x27_1).f2).length : Int)) = true := decide_eq_true c27
                    clear c27
                    by_cases c28 : 0 ≤ x27_1
                    ·rw [if_pos c28] at H
                     have c28b0 : decide (0 ≤ x27_1) = true := decide_eq_true c28
                     clear c28
                     by_cases c29 : x27_1 < (x8_3.length : Int)
                     ·rw [if_pos c29] at H
                      have c29b0 : decide (x27_1 < (x8_3.length : Int)) = true := decide_eq_true c29
                      clear c29
                      by_cases c30 : 0 ≤ (rd ((rd_T56 l0 x27_1).f2) x51_3)
                      ·rw [if_pos c30] at H
                       have c30b0 : decide (0 ≤ (rd ((rd_T56 l0 x27_1).f2) x51_3)) = true := decide_eq_true c30
                       clear c30
                       by_cases c31 : (rd ((rd_T56 l0 x27_1).f2) x51_3) < (x8_3.length : Int)
                       ·rw [if_pos c31] at H
                        have c31b0 : decide ((rd ((rd_T56 l0 x27_1).f2) x51_3) < (x8_3.length : Int)) = true := decide_eq_true c31
                        clear c31
                        obtain ⟨ji32, hji32⟩ : ∃ j_ : Int, (mx (rd x8_3 x27_1) (wrap64 ((rd x8_3 (rd ((rd_T56 l0 x27_1).f2) x51_3)) + 1))) = j_ := ⟨_, rfl⟩
                        replace H : (sexp_Depth.l1 k3 l0 a1 (x8_3.set (x27_1 : Int).toNat (ji32)) x27_1 t266 (t266.length : Int) x27_1 ((rd_T56 l0 x27_1).f2) (((rd_T56 l0 x27_1).f2).length : Int) (wrap64 (x51_3 + 1))) = some (r1, r2) := by ((rw [hji32] at H; exact H))
                        have hji32_ : (if (rd x8_3 x27_1) < (wrap64 ((rd x8_3 (rd ((rd_T56 l0 x27_1).f2) x51_3)) + 1)) then (wrap64 ((rd x8_3 (rd ((rd_T56 l0 x27_1).f2) x51_3)) + 1)) else (rd x8_3 x27_1)) = ji32 := hji32
                        obtain ⟨y281, hy281⟩ : ∃ y_ : List Int, y_ = (x8_3.set (x27_1 : Int).toNat (ji32)) := ⟨_, rfl⟩
                        replace H : (sexp_Depth.l1 k3 l0 a1 y281 x27_1 t266 (t266.length : Int) x27_1 ((rd_T56 l0 x27_1).f2) (((rd_T56 l0 x27_1).f2).length : Int) (wrap64 (x51_3 + 1))) = some (r1, r2) := by ((rw [hy281]; with_reducible exact H))
                        have Ny281 := Aside0.mk hy281
                        clear hy281
                        have H' := Aside0.mk H
                        clear H
                        have p278 : 0 ≤ (x51_3 : Int) := of_decide_eq_true (by assumption)
                        have q278 : x51_3 < (((rd_T56 l0 x27_1).f2).length : Int) := of_decide_eq_true (by assumption)
                        obtain ⟨ad278, e278, hx278_0⟩ := Kd.at_int HR277_6.out x51_3 p278 q278
                        cases e278
                        replace hx278_0 := (HB.out.cell (World.block_lt_of_cell? w _ hx278_0)).trans hx278_0
                        replace p278 := eq_true p278
                        replace q278 := eq_true q278
                        try go_wp2
                        have n0_ := Aside0.mk (Kd.R_drew HO_8.out)
                        have n1_ := Aside0.mk (Kd.R_drew HO_25.out)
                        have n2_ := Aside0.mk (below_drew1 HB.out)
                        clear HO_8
                        clear HO_25
                        clear HB
                        have HO_8 := n0_
                        have HO_25 := n1_
                        have HB := n2_
                        clear n0_ n1_ n2_
                        have p279 : 0 ≤ (x27_1 : Int) := of_decide_eq_true (by assumption)
                        have q279 : x27_1 < (x8_3.length : Int) := of_decide_eq_true (by assumption)
                        obtain ⟨ad279, e279, hx279_0⟩ := Kd.at_int (Kd.R_reads' HO_8.out).2.2 x27_1 p279 q279
                        obtain rfl : (⟨go21, 0, none⟩ : Addr) = ad279 := (by injection e279)
                        (simp only [add_plain] at hx279_0)
                        replace p279 := eq_true p279
                        replace q279 := eq_true q279
                        have p280 : 0 ≤ ((rd ((rd_T56 l0 x27_1).f2) x51_3) : Int) := of_decide_eq_true (by assumption)
                        have q280 : (rd ((rd_T56 l0 x27_1).f2) x51_3) < (x8_3.length : Int) := of_decide_eq_true (by assumption)
                        obtain ⟨ad280, e280, hx280_0⟩ := Kd.at_int (Kd.R_reads' HO_8.out).2.2 (rd ((rd_T56 l0 x27_1).f2) x51_3) p280 q280
                        obtain rfl : (⟨go21, 0, none⟩ : Addr) = ad280 := (by injection e280)
                        (simp only [add_plain] at hx280_0)
                        replace p280 := eq_true p280
                        replace q280 := eq_true q280
                        have p33 : 0 ≤ (x27_1 : Int) := of_decide_eq_true (by assumption)
                        have q33 : (x27_1 : Int) < ((x8_3.length : Int) : Int) := of_decide_eq_true (by assumption)
                        obtain ⟨hx33_0, hf33_0⟩ := Kd.R_celln 0 HO_8.out (x27_1 : Int) p33 q33
                        replace p33 := eq_true p33
                        replace q33 := eq_true q33
                        have HP35 := Kd.R_putn HO_8.out (x27_1 : Int) ji32
                        rw [← Ny281.out] at HP35
                        have HQ35 := Aside0.mk HP35
                        clear HP35
                        refine start_ (n := 14) (S := fun w' => w'.cell? ⟨go21, (x27_1).toNat, none⟩ = some (.int .i64 (rd x8_3 x27_1)) ∧ w'.cell? ⟨go21, ((rd ((rd_T56 l0 x27_1).f2) x51_3)).toNat, none⟩ = some (.int .i64 (rd x8_3 (rd ((rd_T56 l0 x27_1).f2) x51_3)))) (ds := [13]) #[false, false, false, false, false, false, false, false, false, false, false, false, false, false] (by kernel_rfl) rfl rfl ⟨hx279_0, hx280_0⟩ (fun hHeld => ?_); refine with_tabW sexp_Depth.tab13 sexp_Depth.bits13 (fun HT_ HW_ => ?_)
                        generalize wr.drew = w34 at HO_8 HO_25 HB HQ35 hf33_0 hx279_0 hx280_0 hx33_0 hHeld ⊢
                        refine pure_ (i := 0) (N := some 55) (v := ?_) (a' := ?_) #[true, false, false, false, false, false, false, false, false, false, false, false, false, false] rfl rfl (any_of HT_.out (by kernel_rfl)) (fun _ _ _ h => h) (Or.inl ⟨by rfl, ?_⟩) ?_ ?_
                        rotate_left
                        ·intro w'
                         go_simp
                         with_reducible rfl
                        rotate_left
                        ·simp only [Act.put, List.setIfInBounds_toArray, List.set_cons_zero, List.set_cons_succ, i64_w, i32_w]
                         rfl
                        refine pure_ (i := 1) (N := some 56) (v := ?_) (a' := ?_) #[true, true, false, false, false, false, false, false, false, false, false, false, false, false] rfl rfl (any_of HT_.out (by kernel_rfl)) (fun _ _ _ h => h) (Or.inl ⟨by rfl, ?_⟩) ?_ ?_
                        rotate_left
                        ·intro w'
                         go_simp
                         with_reducible rfl
                        rotate_left
                        ·simp only [Act.put, List.setIfInBounds_toArray, List.set_cons_zero, List.set_cons_succ, i64_w, i32_w]
                         rfl
                        refine pure_ (i := 2) (N := some 57) (v := ?_) (a' := ?_) #[true, true, true, false, false, false, false, false, false, false, false, false, false, false] rfl rfl (any_of HT_.out (by kernel_rfl)) (fun _ _ _ h => h) (Or.inl ⟨by rfl, ?_⟩) ?_ ?_
                        rotate_left
                        ·intro w'
                         go_simp
                         with_reducible rfl
                        rotate_left
                        ·simp only [Act.put, List.setIfInBounds_toArray, List.set_cons_zero, List.set_cons_succ, i64_w, i32_w]
                         rfl
                        refine pure_ (i := 3) (N := some 58) (v := ?_) (a' := ?_) #[true, true, true, true, false, false, false, false, false, false, false, false, false, false] rfl rfl (any_of HT_.out (by kernel_rfl)) (fun _ _ _ h => h) (Or.inl ⟨by rfl, ?_⟩) ?_ ?_
                        rotate_left
                        ·intro w'
                         go_simp
                         with_reducible rfl
                        rotate_left
                        ·simp only [Act.put, List.setIfInBounds_toArray, List.set_cons_zero, List.set_cons_succ, i64_w, i32_w]
                         rfl
                        refine pure_ (i := 4) (N := some 59) (v := ?_) (a' := ?_) #[true, true, true, true, true, false, false, false, false, false, false, false, false, false] rfl rfl (any_of HT_.out (by kernel_rfl)) (fun _ _ _ h => h) (Or.inl ⟨by rfl, ?_⟩) ?_ ?_
                        rotate_left
                        ·intro w'
                         go_simp
                         with_reducible rfl
                        rotate_left
                        ·simp only [Act.put, List.setIfInBounds_toArray, List.set_cons_zero, List.set_cons_succ, i64_w, i32_w]
                         rfl
                        refine pure_ (i := 6) (N := some 61) (v := ?_) (a' := ?_) #[true, true, true, true, true, false, true, false, false, false, false, false, false, false] rfl rfl (any_of HT_.out (by kernel_rfl)) (fun _ _ _ h => h) (Or.inl ⟨by rfl, ?_⟩) ?_ ?_
                        rotate_left
                        ·intro w'
                         go_simp
                         with_reducible rfl
                        rotate_left
                        ·simp only [Act.put, List.setIfInBounds_toArray, List.set_cons_zero, List.set_cons_succ, i64_w, i32_w]
                         rfl
                        refine pure_ (i := 7) (N := some 62) (v := ?_) (a' := ?_) #[true, true, true, true, true, false, true, true, false, false, false, false, false, false] rfl rfl (any_of HT_.out (by kernel_rfl)) (fun _ _ _ h => h) (Or.inl ⟨by rfl, ?_⟩) ?_ ?_
                        rotate_left
                        ·intro w'
                         go_simp
                         with_reducible rfl
                        rotate_left
                        ·simp only [Act.put, List.setIfInBounds_toArray, List.set_cons_zero, List.set_cons_succ, i64_w, i32_w]
                         rfl
                        refine pure_ (i := 8) (N := some 63) (v := ?_) (a' := ?_) #[true, true, true, true, true, false, true, true, true, false, false, false, false, false] rfl rfl (any_of HT_.out (by kernel_rfl)) (fun _ _ _ h => h) (Or.inl ⟨by rfl, ?_⟩) ?_ ?_
                        rotate_left
                        ·intro w'
                         go_simp
                         with_reducible rfl
                        rotate_left
                        ·simp only [Act.put, List.setIfInBounds_toArray, List.set_cons_zero, List.set_cons_succ, i64_w, i32_w]
                         rfl
                        refine take_ (i := 5) (N := some 60) (v := ?_) (a' := ?_) #[true, true, true, true, true, true, true, true, true, false, false, false, false, false] rfl rfl (take_ofW HT_.out HW_.out (by kernel_rfl)) (fun _ _ _ h => h) (Or.inl ⟨by rfl, ?_⟩) hHeld ?_ ?_
                        rotate_left
                        ·rintro w' ⟨s0, s1⟩
                         go_simp
                         with_reducible rfl
                        rotate_left
                        ·simp only [Act.put, List.setIfInBounds_toArray, List.set_cons_zero, List.set_cons_succ, i64_w, i32_w]
                         rfl
                        refine take_ (i := 9) (N := some 64) (v := ?_) (a' := ?_) #[true, true, true, true, true, true, true, true, true, true, false, false, false, false] rfl rfl (take_ofW HT_.out HW_.out (by kernel_rfl)) (fun _ _ _ h => h) (Or.inl ⟨by rfl, ?_⟩) hHeld ?_ ?_
                        rotate_left
                        ·rintro w' ⟨s0, s1⟩
                         go_simp
                         with_reducible rfl
                        rotate_left
                        ·simp only [Act.put, List.setIfInBounds_toArray, List.set_cons_zero, List.set_cons_succ, i64_w, i32_w]
                         rfl
                        refine pure_ (i := 10) (N := some 65) (v := ?_) (a' := ?_) #[true, true, true, true, true, true, true, true, true, true, true, false, false, false] rfl rfl (any_of HT_.out (by kernel_rfl)) (fun _ _ _ h => h) (Or.inl ⟨by rfl, ?_⟩) ?_ ?_
                        rotate_left
                        ·intro w'
                         go_simp
                         with_reducible rfl
                        rotate_left
                        ·simp only [Act.put, List.setIfInBounds_toArray, List.set_cons_zero, List.set_cons_succ, i64_w, i32_w]
                         rfl
                        refine pure_ (i := 11) (N := some 66) (v := ?_) (a' := ?_) #[true, true, true, true, true, true, true, true, true, true, true, true, false, false] rfl rfl (any_of HT_.out (by kernel_rfl)) (fun _ _ _ h => h) (Or.inl ⟨by rfl, ?_⟩) ?_ ?_
                        rotate_left
                        ·intro w'
                         go_simp
                         with_reducible rfl
                        rotate_left
                        ·simp only [Act.put, List.setIfInBounds_toArray, List.set_cons_zero, List.set_cons_succ, i64_w, i32_w]
                         rfl
                        refine pure_ (i := 12) (N := some 67) (v := ?_) (a' := ?_) #[true, true, true, true, true, true, true, true, true, true, true, true, true, false] rfl rfl (any_of HT_.out (by kernel_rfl)) (fun _ _ _ h => h) (Or.inl ⟨by rfl, ?_⟩) ?_ ?_
                        rotate_left
                        ·intro w'
                         go_simp
                         with_reducible rfl
                        rotate_left
                        ·simp only [Act.put, List.setIfInBounds_toArray, List.set_cons_zero, List.set_cons_succ, i64_w, i32_w]
                         rfl
                        refine last_ (i := 13) (N := none) #[true, true, true, true, true, true, true, true, true, true, true, true, true, true] rfl rfl (one_of HT_.out (by kernel_rfl)) (by decide) (fun K hK => ?_)
                        refine skip_ (w1 := ?_) (by rfl) rfl ?_ ?_
                        rotate_left
                        ·go_simp
                         rfl
                        refine hK.out _ _ ?_
                        clear hK K
                        refine done_ (done_of HT_.out (by kernel_rfl)) ?_
                        try go_wp2
                        (try simp only [← hl8_3])
                        go_roundg k3
                        case measure => have := HK1.out; have := HJ13.out; have := HK3.out; omega
                        case rel => exact ⟨(y281), (wrap64 (x51_3 + 1)), (by rfl), H', ⟨by have := HK1.out; have := HJ13.out; have := HK3.out; omega⟩, ⟨by (try simp only [hl8_3]); exact HQ35.out⟩, ⟨by (obtain ⟨cz_, hz_⟩ := Kd.R_typed HO_8.out go21 rfl; exact Kd.R_mono (Kd.R_far (p := ⟨go21, (x27_1 : Int).toNat, none⟩) (Kd.R_types HO_25.out hz_ (by decide)) (fun _ hk => hk.2) (.int .i64 ji32)) (fun _ hk => trivial))⟩, ⟨by repeat ((with_reducible first | exact HB.out | refine below_set ?_ GB21.out))⟩⟩
                       ·rw [if_neg c31] at H
                        exact absurd H (by simp)
                      ·rw [if_neg c30] at H
                       exact absurd H (by simp)
                     ·rw [if_neg c29] at H
                      exact absurd H (by simp)
                    ·rw [if_neg c28] at H
                     exact absurd H (by simp)
                   ·rw [if_neg c27] at H
                    exact absurd H (by simp)
                  ·rw [if_neg c26] at H
                   exact absurd H (by simp)
                 ·rw [if_neg c25] at H
                  have c25b0 : decide (x51_3 < (((rd_T56 l0 x27_1).f2).length : Int)) = false := decide_eq_false c25
                  clear c25
                  have H' := Aside0.mk H
                  clear H
                  go_wp2
                  (try simp only [← hl8_3])
                  go_roundg k3
                  case measure => have := HK1.out; have := HJ13.out; have := HK3.out; omega
                  case rel => exact ⟨(x8_3), (wrap64 (x27_1 + 1)), (by rfl), H', ⟨by have := HK1.out; have := HJ13.out; have := HK3.out; omega⟩, ⟨by (try simp only [hl8_3]); exact HO_8.out⟩, ⟨by exact HO_25.out⟩, ⟨by exact HB.out⟩⟩
              ·rw [if_neg c22] at H
               exact absurd H (by simp)
             ·rw [if_neg c20] at H
              exact absurd H (by simp)
            ·rw [if_neg c19] at H
             exact absurd H (by simp)
        ·rw [if_neg c13] at H
         exact absurd H (by simp)
       ·rw [if_neg c12] at H
        exact absurd H (by simp)
      ·rw [if_neg c11] at H
       have c11b0 : decide (x27_1 < (t266.length : Int)) = false := decide_eq_false c11
       clear c11
       by_cases c36 : 0 ≤ a1
       ·rw [if_pos c36] at H
        have c36b0 : decide (0 ≤ a1) = true := decide_eq_true c36
        clear c36
        by_cases c37 : a1 < (x8_1.length : Int)
        ·rw [if_pos c37] at H
         have c37b0 : decide (a1 < (x8_1.length : Int)) = true := decide_eq_true c37
         clear c37
         simp only [Option.some.injEq, Prod.mk.injEq] at H
         obtain ⟨rfl, rfl⟩ := H
         obtain ⟨Ao38, co38, eo38⟩ := Kd.R_slice HO_8.out
         subst eo38
         have p273 : 0 ≤ (a1 : Int) := of_decide_eq_true (by assumption)
         have q273 : a1 < (x8_1.length : Int) := of_decide_eq_true (by assumption)
         obtain ⟨ad273, e273, hx273_0⟩ := Kd.at_int (Kd.R_reads' HO_8.out).2.2 a1 p273 q273
         cases e273
         replace p273 := eq_true p273
         replace q273 := eq_true q273
         go_wp2
         go_ret2
         exact ⟨by rfl, by exact HB.out⟩
        ·rw [if_neg c37] at H
         exact absurd H (by simp)
       ·rw [if_neg c36] at H
        exact absurd H (by simp)
   ·rw [if_neg c6] at H
    exact absurd H (by simp)
  ·rw [if_neg c5] at H
   exact absurd H (by simp)
 ·rw [if_neg c4] at H
  have c4b0 : (t267 == 0) = false := beq_eq_false_iff_ne.mpr c4
  have c4b1 : (t267 != 0) = true := bne_iff_ne.mpr c4
  simp only [Option.some.injEq, Prod.mk.injEq] at H
  obtain ⟨rfl, rfl⟩ := H
  go_enter Tryz.func9, Tryz.ntmps9
  go_wp2_with ((((with_reducible refine gate_callee (f := 27) rfl ?_); refine goesL_ (some 16) rfl rfl Tryz.func27 (by kernel_rfl) rfl #[.slice A0 l0.length c0, .int .i64 a1] rfl (by (try simp only [List.map_toArray, List.map_cons, List.map_nil]); rfl) ?_; (with_reducible refine (sexp_asked.calls k _ _ l0 a1 t266 t267 _ ?side1 ?side2 A3.out).mono ?_); (case side1 => repeat (exact HR0.out)); (case side2 => exact HC0.out); rintro e w39 ⟨v268, rfl, ho0, hb⟩; refine ⟨_, rfl, ?_⟩; have n0_ := Aside0.mk (Kd.R_lower ho0 (below_size (by exact HB.out))); have n1_ := Aside0.mk (below_step (by exact HB.out) hb); clear HB; have HO269 := n0_; have HB := n1_; clear n0_ n1_; (try clear hb); (try clear ho0))))
  go_ret2
  exact ⟨by rfl, by exact HB.out⟩

/-! ### sexp_sizes: function 44 -/
mutual
def sexp_sizes.l0 : Nat → List (S56) → List Int → List Bool → Int → Int → Option (List Int)
 | 0, _, _, _, _, _ => none
 | k + 1, x0, x5, x15, x16, x17 => if x17 < x16 then (if 0 ≤ x17 then (if x17 < (x15.length : Int) then (if rdOf false x15 x17 = true then (if x17 < (x0.length : Int) then (if ((rd_T56 x0 x17).f0) = 1 then ((lexis_Write.f ((rd_T56 x0 x17).f1.f0) ((rd_T56 x0 x17).f1.f1) ((rd_T56 x0 x17).f1.f2) ((rd_T56 x0 x17).f1.f3) ((rd_T56 x0 x17).f1.f4)).bind fun bt486 => (if x17 < (x5.length : Int) then (sexp_sizes.l0 k x0 (x5.set (x17 : Int).toNat (bt486.1.size : Int)) x15 x16 (wrap64 (x17 + 1))) else (none))) else (if x17 < (x5.length : Int) then (sexp_sizes.l1 k x0 (x5.set (x17 : Int).toNat (wrap64 (2 + (mx 0 (wrap64 ((((rd_T56 x0 x17).f2).length : Int) - 1)))))) x17 x15 x16 x17 ((rd_T56 x0 x17).f2) (((rd_T56 x0 x17).f2).length : Int) 0) else (none))) else (none)) else (sexp_sizes.l0 k x0 x5 x15 x16 (wrap64 (x17 + 1)))) else (none)) else (none)) else (some x5)
def sexp_sizes.l1 : Nat → List (S56) → List Int → Int → List Bool → Int → Int → List Int → Int → Int → Option (List Int)
 | 0, _, _, _, _, _, _, _, _, _ => none
 | k + 1, x0, x5, x6, x15, x16, x17, x60, x61, x62 => if x62 < x61 then (if 0 ≤ x62 then (if x62 < (x60.length : Int) then (if 0 ≤ x6 then (if x6 < (x5.length : Int) then (if 0 ≤ (rd x60 x62) then (if (rd x60 x62) < (x5.length : Int) then (sexp_sizes.l1 k x0 (x5.set (x6 : Int).toNat (mn (wrap64 ((rd x5 x6) + (rd x5 (rd x60 x62)))) 1048577)) x6 x15 x16 x17 x60 x61 (wrap64 (x62 + 1))) else (none)) else (none)) else (none)) else (none)) else (none)) else (none)) else (sexp_sizes.l0 k x0 x5 x15 x16 (wrap64 (x17 + 1)))
end
def sexp_sizes.f (k : Nat) (l0 : List (S56)) (l1 : List Bool) : Option (List Int) := if 0 ≤ (l1.length : Int) then (if ((l1.length : Int) : Int).toNat ≤ 35184372088832 then (sexp_sizes.l0 k l0 (List.replicate ((l1.length : Int) : Int).toNat 0) l1 (l1.length : Int) 0) else (none)) else (none)
theorem sexp_sizes.mono_l : ∀ k, (∀ y0 y1 y2 y3 y4, LeO (sexp_sizes.l0 k y0 y1 y2 y3 y4) (sexp_sizes.l0 (k + 1) y0 y1 y2 y3 y4)) ∧ (∀ y0 y1 y2 y3 y4 y5 y6 y7 y8, LeO (sexp_sizes.l1 k y0 y1 y2 y3 y4 y5 y6 y7 y8) (sexp_sizes.l1 (k + 1) y0 y1 y2 y3 y4 y5 y6 y7 y8))
 | 0 => ⟨fun _ _ _ _ _ r h => by simp [sexp_sizes.l0] at h, fun _ _ _ _ _ _ _ _ _ r h => by simp [sexp_sizes.l1] at h⟩
 | k + 1 => by
  obtain ⟨ih0, ih1⟩ := sexp_sizes.mono_l k
  refine ⟨?_, ?_⟩
  ·intro y0 y1 y2 y3 y4
   unfold sexp_sizes.l0
   repeat' first
   | (with_reducible exact ih0 _ _ _ _ _)
   | (with_reducible exact ih1 _ _ _ _ _ _ _ _ _)
   | (with_reducible exact LeO.refl _)
   | (with_reducible refine LeO.ite ?_ ?_)
   | (with_reducible refine LeO.bind ?_ (fun _ => ?_))
  ·intro y0 y1 y2 y3 y4 y5 y6 y7 y8
   unfold sexp_sizes.l1
   repeat' first
   | (with_reducible exact ih0 _ _ _ _ _)
   | (with_reducible exact ih1 _ _ _ _ _ _ _ _ _)
   | (with_reducible exact LeO.refl _)
   | (with_reducible refine LeO.ite ?_ ?_)
theorem sexp_sizes.mono : ∀ a0 a1 k, LeO (sexp_sizes.f k a0 a1) (sexp_sizes.f (k + 1) a0 a1) := by
 intro a0 a1 k
 obtain ⟨ih0, ih1⟩ := sexp_sizes.mono_l k
 unfold sexp_sizes.f
 repeat' first
  | (with_reducible exact ih0 _ _ _ _ _)
  | (with_reducible exact LeO.refl _)
  | (with_reducible refine LeO.ite ?_ ?_)
def sexp_sizes.T13 : Bool × List (List Nat × List Nat) := (true, [([], []), ([], []), ([], []), ([], []), ([2, 3], [2, 3]), ([4], [4]), ([], []), ([], []), ([6, 7], [6, 7]), ([8], [8]), ([5, 9], [5, 9]), ([10], [10]), ([0, 1, 0, 1, 2, 3, 4, 5, 6, 7, 8, 9, 10, 11], [0, 1]), ([12, 11, 0, 1, 2, 3, 4, 5, 6, 7, 8, 9, 10, 11], [11, 12])])
def sexp_sizes.B13 : List Nat := [0, 0, 0, 0, 12, 28, 0, 0, 192, 448, 1020, 2044, 4095, 8191]
theorem sexp_sizes.tab13 : rtab .any (opsOf Tryz.f42 13) = sexp_sizes.T13 := by kernel_rfl
theorem sexp_sizes.bits13 : waitsOk sexp_sizes.T13.2 sexp_sizes.B13 = true := by kernel_rfl
set_option maxHeartbeats 8000000 in
set_option maxRecDepth 100000 in
theorem sexp_sizes.calls (k : Nat) (A0 : Option Addr) (c0 : Nat) (l0 : List (S56)) (A1 : Option Addr) (c1 : Nat) (l1 : List Bool) (r : List Int) (w : World) (hr0 : Kd.C k56 w A0 l0.length l0) (hc0 : l0.length ≤ c0) (hr1 : Kd.C Kd.bool w A1 l1.length l1) (hc1 : l1.length ≤ c1) (h : sexp_sizes.f k l0 l1 = some r) :
 Calls Tryz.prog 42 #[.slice A0 l0.length c0, .slice A1 l1.length c1] w fun e w' => ∃ v0_ : Value, e = .returned (v0_) ∧ Kd.R (Kd.int .i64) 3 w' w.heap.size (fun _ => True) v0_ r ∧ Below w.heap.size w w' := by
 have hu38 := Tryz.underlying37
 have HR0 := Aside0.mk hr0
 have HC0 := Aside0.mk hc0
 clear hr0 hc0
 have HR1 := Aside0.mk hr1
 have HC1 := Aside0.mk hc1
 clear hr1 hc1
 have HB := Aside0.mk (Below.refl w.heap.size w)
 have H : (if 0 ≤ (l1.length : Int) then (if ((l1.length : Int) : Int).toNat ≤ 35184372088832 then (sexp_sizes.l0 k l0 (List.replicate ((l1.length : Int) : Int).toNat 0) l1 (l1.length : Int) 0) else (none)) else (none)) = some r := h
 clear h
 by_cases c3 : 0 ≤ (l1.length : Int)
 ·rw [if_pos c3] at H
  have c3b0 := eq_true c3
  have c3b1 : decide (0 ≤ (l1.length : Int)) = true := decide_eq_true c3
  clear c3
  by_cases c4 : ((l1.length : Int) : Int).toNat ≤ 35184372088832
  ·rw [if_pos c4] at H
   have c4b0 := eq_true c4
   have c4b1 : decide (((l1.length : Int) : Int).toNat ≤ 35184372088832) = true := decide_eq_true c4
   clear c4
   obtain ⟨y480, hy480⟩ : ∃ y_ : List Int, y_ = (List.replicate ((l1.length : Int) : Int).toNat 0) := ⟨_, rfl⟩
   replace H : (sexp_sizes.l0 k l0 y480 l1 (l1.length : Int) 0) = some r := by ((rw [hy480]; with_reducible exact H))
   have Ny480 := Aside0.mk hy480
   clear hy480
   have H' := Aside0.mk H
   clear H
   go_enter Tryz.func42, Tryz.ntmps42
   go_wp2_with ((((with_reducible refine gate_dst (N := 14) rfl ?_); refine Kd.R_make (Kd.int .i64) _ 3 rfl (N := 14) rfl 31 _ _ rfl (l1.length : Int) rfl rfl Tryz.underlying31 (.int .i64 0) 8 info3 rfl (by decide) (by omega) 0 (ok := fun _ => True) (okp := fun _ => True) rfl (fun _ hk => hk) trivial (of_decide_eq_true (by assumption)) (Nat.le_trans (Nat.mul_le_mul_right _ (of_decide_eq_true (by assumption) : (l1.length : Int).toNat ≤ 35184372088832)) (by omega)) (Below.refl _ _) (Nat.le_refl _) ?_; intro v481 w5 ho6 hb hg_ hnew_; clear hg_ hnew_; (rw [← Ny480.out] at ho6); have n0_ := Aside0.mk (Kd.R_lower ho6 (below_size (by exact HB.out))); have n1_ := Aside0.mk (below_step (by exact HB.out) hb); clear HB; have HO482 := n0_; have HB := n1_; clear n0_ n1_; clear hb ho6)))
   go_loopg [17] k (fun kq v17 w' => ∃ (x5_1 : List Int) (x17_1 : Int), v17 = .int .i64 x17_1 ∧ Aside0 (sexp_sizes.l0 kq l0 x5_1 l1 (l1.length : Int) x17_1 = some r) ∧ Aside0 (kq ≤ k) ∧ Aside0 (Kd.R (Kd.int .i64) 3 w' w.heap.size (fun _ => True) v481 x5_1) ∧ Aside0 (Below w.heap.size w w'))
   case atStart => exact ⟨(y480), (0), (by rfl), H', ⟨Nat.le_refl _⟩, ⟨by exact HO482.out⟩, ⟨by exact HB.out⟩⟩
   case round =>
    clear H'
    obtain ⟨x5_1, x17_1, rfl, HA, HK1, HO_5, HB⟩ := hrel
    cases gk with
    | zero => exact absurd HA.out (by simp [sexp_sizes.l0])
    | succ k1 =>
     have H := HA.out
     clear HA
     simp only [sexp_sizes.l0] at H
     by_cases c7 : x17_1 < (l1.length : Int)
     ·rw [if_pos c7] at H
      have c7b0 : decide (x17_1 < (l1.length : Int)) = true := decide_eq_true c7
      clear c7
      by_cases c8 : 0 ≤ x17_1
      ·rw [if_pos c8] at H
       have c8b0 : decide (0 ≤ x17_1) = true := decide_eq_true c8
       clear c8
       by_cases c9 : x17_1 < (l1.length : Int)
       ·rw [if_pos c9] at H
        have c9b0 : decide (x17_1 < (l1.length : Int)) = true := decide_eq_true c9
        clear c9
        obtain ⟨bq10, hbq10⟩ : ∃ b_ : Bool, b_ = (rdOf false l1 x17_1) := ⟨_, rfl⟩
        replace H : (if bq10 = true then (if x17_1 < (l0.length : Int) then (if ((rd_T56 l0 x17_1).f0) = 1 then ((lexis_Write.f ((rd_T56 l0 x17_1).f1.f0) ((rd_T56 l0 x17_1).f1.f1) ((rd_T56 l0 x17_1).f1.f2) ((rd_T56 l0 x17_1).f1.f3) ((rd_T56 l0 x17_1).f1.f4)).bind fun bt486 => (if x17_1 < (x5_1.length : Int) then (sexp_sizes.l0 k1 l0 (x5_1.set (x17_1 : Int).toNat (bt486.1.size : Int)) l1 (l1.length : Int) (wrap64 (x17_1 + 1))) else (none))) else (if x17_1 < (x5_1.length : Int) then (sexp_sizes.l1 k1 l0 (x5_1.set (x17_1 : Int).toNat (wrap64 (2 + (mx 0 (wrap64 ((((rd_T56 l0 x17_1).f2).length : Int) - 1)))))) x17_1 l1 (l1.length : Int) x17_1 ((rd_T56 l0 x17_1).f2) (((rd_T56 l0 x17_1).f2).length : Int) 0) else (none))) else (none)) else (sexp_sizes.l0 k1 l0 x5_1 l1 (l1.length : Int) (wrap64 (x17_1 + 1)))) = some r := by rw [← hbq10] at H; exact H
        have Nbq10 := Aside0.mk hbq10
        clear hbq10
        by_cases c11 : bq10 = true
        ·subst c11
         have H1 : (if x17_1 < (l0.length : Int) then (if ((rd_T56 l0 x17_1).f0) = 1 then ((lexis_Write.f ((rd_T56 l0 x17_1).f1.f0) ((rd_T56 l0 x17_1).f1.f1) ((rd_T56 l0 x17_1).f1.f2) ((rd_T56 l0 x17_1).f1.f3) ((rd_T56 l0 x17_1).f1.f4)).bind fun bt486 => (if x17_1 < (x5_1.length : Int) then (sexp_sizes.l0 k1 l0 (x5_1.set (x17_1 : Int).toNat (bt486.1.size : Int)) l1 (l1.length : Int) (wrap64 (x17_1 + 1))) else (none))) else (if x17_1 < (x5_1.length : Int) then (sexp_sizes.l1 k1 l0 (x5_1.set (x17_1 : Int).toNat (wrap64 (2 + (mx 0 (wrap64 ((((rd_T56 l0 x17_1).f2).length : Int) - 1)))))) x17_1 l1 (l1.length : Int) x17_1 ((rd_T56 l0 x17_1).f2) (((rd_T56 l0 x17_1).f2).length : Int) 0) else (none))) else (none)) = some r := by rw [if_pos rfl] at H; exact H
         clear H
         have H := H1
         clear H1
         by_cases c12 : x17_1 < (l0.length : Int)
         ·rw [if_pos c12] at H
          have c12b0 : decide (x17_1 < (l0.length : Int)) = true := decide_eq_true c12
          clear c12
          by_cases c13 : ((rd_T56 l0 x17_1).f0) = 1
          ·rw [if_pos c13] at H
           have c13b0 : (((rd_T56 l0 x17_1).f0) == 1) = true := beq_iff_eq.mpr c13
           have c13b1 : (((rd_T56 l0 x17_1).f0) != 1) = false := bne_eq_false_iff_eq.mpr c13
           clear c13
           replace H := Option.bind_eq_some_iff.mp H
           obtain ⟨⟨t486, t487⟩, A140, H⟩ := H
           replace H : (if x17_1 < (x5_1.length : Int) then (sexp_sizes.l0 k1 l0 (x5_1.set (x17_1 : Int).toNat (t486.size : Int)) l1 (l1.length : Int) (wrap64 (x17_1 + 1))) else (none)) = some r := H
           have A14 := Aside0.mk A140
           clear A140
           by_cases c15 : x17_1 < (x5_1.length : Int)
           ·rw [if_pos c15] at H
            have c15b0 : decide (x17_1 < (x5_1.length : Int)) = true := decide_eq_true c15
            clear c15
            obtain ⟨y488, hy488⟩ : ∃ y_ : List Int, y_ = (x5_1.set (x17_1 : Int).toNat (t486.size : Int)) := ⟨_, rfl⟩
            replace H : (sexp_sizes.l0 k1 l0 y488 l1 (l1.length : Int) (wrap64 (x17_1 + 1))) = some r := by ((rw [hy488]; with_reducible exact H))
            have Ny488 := Aside0.mk hy488
            clear hy488
            have H' := Aside0.mk H
            clear H
            have p483 : 0 ≤ (x17_1 : Int) := of_decide_eq_true (by assumption)
            have q483 : x17_1 < (l1.length : Int) := of_decide_eq_true (by assumption)
            obtain ⟨ad483, e483, hx483_0⟩ := Kd.at_bool HR1.out x17_1 p483 q483
            (try rw [← Nbq10.out] at hx483_0)
            cases e483
            replace hx483_0 := (HB.out.cell (World.block_lt_of_cell? w _ hx483_0)).trans hx483_0
            replace p483 := eq_true p483
            replace q483 := eq_true q483
            have p484 : 0 ≤ (x17_1 : Int) := of_decide_eq_true (by assumption)
            have q484 : x17_1 < (l0.length : Int) := of_decide_eq_true (by assumption)
            obtain ⟨ad484, A484_6, c484_6, e484, hx484_0, hx484_1, hx484_2, hx484_3, hx484_4, hx484_5, hx484_6, hl484_6, hi484_6⟩ := at_T56 HR0.out x17_1 p484 q484
            skip
            cases e484
            replace hx484_0 := (HB.out.cell (World.block_lt_of_cell? w _ hx484_0)).trans hx484_0
            replace hx484_1 := (HB.out.cell (World.block_lt_of_cell? w _ hx484_1)).trans hx484_1
            replace hx484_2 := (HB.out.cell (World.block_lt_of_cell? w _ hx484_2)).trans hx484_2
            replace hx484_3 := (HB.out.cell (World.block_lt_of_cell? w _ hx484_3)).trans hx484_3
            replace hx484_4 := (HB.out.cell (World.block_lt_of_cell? w _ hx484_4)).trans hx484_4
            replace hx484_5 := (HB.out.cell (World.block_lt_of_cell? w _ hx484_5)).trans hx484_5
            replace hx484_6 := (HB.out.cell (World.block_lt_of_cell? w _ hx484_6)).trans hx484_6
            have HR484_6 := Aside0.mk hi484_6
            have HC484_6 := Aside0.mk hl484_6
            clear hi484_6 hl484_6
            replace p484 := eq_true p484
            replace q484 := eq_true q484
            have p485 : 0 ≤ (x17_1 : Int) := of_decide_eq_true (by assumption)
            have q485 : x17_1 < (l0.length : Int) := of_decide_eq_true (by assumption)
            obtain ⟨ad485, A485_6, c485_6, e485, hx485_0, hx485_1, hx485_2, hx485_3, hx485_4, hx485_5, hx485_6, hl485_6, hi485_6⟩ := at_T56 HR0.out x17_1 p485 q485
            skip
            obtain rfl : ad484 = ad485 := (by injection e485)
            replace hx485_0 := (HB.out.cell (World.block_lt_of_cell? w _ hx485_0)).trans hx485_0
            replace hx485_1 := (HB.out.cell (World.block_lt_of_cell? w _ hx485_1)).trans hx485_1
            replace hx485_2 := (HB.out.cell (World.block_lt_of_cell? w _ hx485_2)).trans hx485_2
            replace hx485_3 := (HB.out.cell (World.block_lt_of_cell? w _ hx485_3)).trans hx485_3
            replace hx485_4 := (HB.out.cell (World.block_lt_of_cell? w _ hx485_4)).trans hx485_4
            replace hx485_5 := (HB.out.cell (World.block_lt_of_cell? w _ hx485_5)).trans hx485_5
            replace hx485_6 := (HB.out.cell (World.block_lt_of_cell? w _ hx485_6)).trans hx485_6
            have HR485_6 := Aside0.mk hi485_6
            have HC485_6 := Aside0.mk hl485_6
            clear hi485_6 hl485_6
            replace p485 := eq_true p485
            replace q485 := eq_true q485
            have ea_ := Option.some.inj (hx484_6.symm.trans hx485_6)
            injection ea_ with ea_ en_ ec_
            subst ea_
            subst ec_
            clear en_
            go_wp2_with (first | ((with_reducible refine gate_callee (f := 15) rfl ?_); refine goesL_ (some 36) rfl rfl Tryz.func15 (by kernel_rfl) rfl #[.agg #[.int .i64 ((rd_T56 l0 x17_1).f1.f0), .string ((rd_T56 l0 x17_1).f1.f1), .bool ((rd_T56 l0 x17_1).f1.f2), .int .i64 ((rd_T56 l0 x17_1).f1.f3), .int .i64 ((rd_T56 l0 x17_1).f1.f4)]] rfl (by (try simp only [List.map_toArray, List.map_cons, List.map_nil]); rfl) ?_; (with_reducible refine (lexis_Write.calls ((rd_T56 l0 x17_1).f1.f0) ((rd_T56 l0 x17_1).f1.f1) ((rd_T56 l0 x17_1).f1.f2) ((rd_T56 l0 x17_1).f1.f3) ((rd_T56 l0 x17_1).f1.f4) t486 t487 _ A14.out).mono ?_); rintro e w17 ⟨rfl, hb⟩; refine ⟨_, rfl, ?_⟩; have n0_ := Aside0.mk (Kd.R_below (by exact HO_5.out) hb); have n1_ := Aside0.mk (below_step (by exact HB.out) hb); clear HO_5; clear HB; have HO_5 := n0_; have HB := n1_; clear n0_ n1_; (try clear hb); have p16 : 0 ≤ (x17_1 : Int) := of_decide_eq_true (by assumption); have q16 : (x17_1 : Int) < ((x5_1.length : Int) : Int) := of_decide_eq_true (by assumption); obtain ⟨go16, co16, eo16, gb16, gl16, cl16, HG16⟩ := Kd.R_form HO_5.out (by omega); (cases eo16); have GB16 := Aside0.mk gb16; have GG16 := Aside0.mk HG16; clear gb16 gl16 HG16; obtain ⟨hx16_0, hf16_0⟩ := Kd.R_celln 0 HO_5.out (x17_1 : Int) p16 q16; replace p16 := eq_true p16; replace q16 := eq_true q16; obtain ⟨hy18_, hz18_⟩ := Kd.R_celln 0 HO_5.out (x17_1 : Int) (of_decide_eq_true (by assumption)) (of_decide_eq_true (by assumption)); have HP18 := Kd.R_putg HO_5.out (x17_1 : Int) (t486.size : Int)) | ((with_reducible refine gate_store (t := 3) (p := 43) rfl ?_); refine store_event (t := 3) (p := 43) (v := ?vo_w19) (w1 := (w17.setCell ⟨go16, (x17_1 : Int).toNat, none⟩ (.int .i64 (t486.size : Int)))) ?hg ?ho ?hn ?hr ?_; (case ho => rfl); (case hg => rfl); (case hn => rfl); (case hr => ((go_simp; done))); intro w19 hw; have hg : w17.grownBy w19 (some go16) := (by rw [hw]; exact HP18.2); have hp_ : Kd.R (Kd.int .i64) 3 w19 w.heap.size (fun _ => True) (.slice (some ⟨go16, 0, none⟩) x5_1.length co16) y488 := (by rw [hw, Ny488.out]; exact HP18.1); clear HP18; have n0_ := Aside0.mk (hp_); have n1_ := Aside0.mk ((by rw [hw]; exact below_set (HB.out) GB16.out : Below w.heap.size w w19)); clear HO_5; clear HB; have HO_5 := n0_; have HB := n1_; clear n0_ n1_; clear hg hw hp_))
            go_roundg k1
            case measure => have := HK1.out; omega
            case rel => exact ⟨(y488), (wrap64 (x17_1 + 1)), (by rfl), H', ⟨by have := HK1.out; omega⟩, ⟨by exact HO_5.out⟩, ⟨by exact HB.out⟩⟩
           ·rw [if_neg c15] at H
            exact absurd H (by simp)
          ·rw [if_neg c13] at H
           have c13b0 : (((rd_T56 l0 x17_1).f0) == 1) = false := beq_eq_false_iff_ne.mpr c13
           have c13b1 : (((rd_T56 l0 x17_1).f0) != 1) = true := bne_iff_ne.mpr c13
           obtain ⟨ji20, hji20⟩ : ∃ j_ : Int, (mx 0 (wrap64 ((((rd_T56 l0 x17_1).f2).length : Int) - 1))) = j_ := ⟨_, rfl⟩
           replace H : (if x17_1 < (x5_1.length : Int) then (sexp_sizes.l1 k1 l0 (x5_1.set (x17_1 : Int).toNat (wrap64 (2 + (ji20)))) x17_1 l1 (l1.length : Int) x17_1 ((rd_T56 l0 x17_1).f2) (((rd_T56 l0 x17_1).f2).length : Int) 0) else (none)) = some r := by ((rw [hji20] at H; exact H))
           have hji20_ : (if 0 < (wrap64 ((((rd_T56 l0 x17_1).f2).length : Int) - 1)) then (wrap64 ((((rd_T56 l0 x17_1).f2).length : Int) - 1)) else 0) = ji20 := hji20
           by_cases c21 : x17_1 < (x5_1.length : Int)
           ·rw [if_pos c21] at H
            have c21b0 : decide (x17_1 < (x5_1.length : Int)) = true := decide_eq_true c21
            clear c21
            obtain ⟨y490, hy490⟩ : ∃ y_ : List Int, y_ = (x5_1.set (x17_1 : Int).toNat (wrap64 (2 + (ji20)))) := ⟨_, rfl⟩
            replace H : (sexp_sizes.l1 k1 l0 y490 x17_1 l1 (l1.length : Int) x17_1 ((rd_T56 l0 x17_1).f2) (((rd_T56 l0 x17_1).f2).length : Int) 0) = some r := by ((rw [hy490]; with_reducible exact H))
            have Ny490 := Aside0.mk hy490
            clear hy490
            have H' := Aside0.mk H
            clear H
            have p483 : 0 ≤ (x17_1 : Int) := of_decide_eq_true (by assumption)
            have q483 : x17_1 < (l1.length : Int) := of_decide_eq_true (by assumption)
            obtain ⟨ad483, e483, hx483_0⟩ := Kd.at_bool HR1.out x17_1 p483 q483
            (try rw [← Nbq10.out] at hx483_0)
            cases e483
            replace hx483_0 := (HB.out.cell (World.block_lt_of_cell? w _ hx483_0)).trans hx483_0
            replace p483 := eq_true p483
            replace q483 := eq_true q483
            have p484 : 0 ≤ (x17_1 : Int) := of_decide_eq_true (by assumption)
            have q484 : x17_1 < (l0.length : Int) := of_decide_eq_true (by assumption)
            obtain ⟨ad484, A484_6, c484_6, e484, hx484_0, hx484_1, hx484_2, hx484_3, hx484_4, hx484_5, hx484_6, hl484_6, hi484_6⟩ := at_T56 HR0.out x17_1 p484 q484
            skip
            cases e484
            replace hx484_0 := (HB.out.cell (World.block_lt_of_cell? w _ hx484_0)).trans hx484_0
            replace hx484_1 := (HB.out.cell (World.block_lt_of_cell? w _ hx484_1)).trans hx484_1
            replace hx484_2 := (HB.out.cell (World.block_lt_of_cell? w _ hx484_2)).trans hx484_2
            replace hx484_3 := (HB.out.cell (World.block_lt_of_cell? w _ hx484_3)).trans hx484_3
            replace hx484_4 := (HB.out.cell (World.block_lt_of_cell? w _ hx484_4)).trans hx484_4
            replace hx484_5 := (HB.out.cell (World.block_lt_of_cell? w _ hx484_5)).trans hx484_5
            replace hx484_6 := (HB.out.cell (World.block_lt_of_cell? w _ hx484_6)).trans hx484_6
            have HR484_6 := Aside0.mk hi484_6
            have HC484_6 := Aside0.mk hl484_6
            clear hi484_6 hl484_6
            replace p484 := eq_true p484
            replace q484 := eq_true q484
            have p489 : 0 ≤ (x17_1 : Int) := of_decide_eq_true (by assumption)
            have q489 : x17_1 < (l0.length : Int) := of_decide_eq_true (by assumption)
            obtain ⟨ad489, A489_6, c489_6, e489, hx489_0, hx489_1, hx489_2, hx489_3, hx489_4, hx489_5, hx489_6, hl489_6, hi489_6⟩ := at_T56 HR0.out x17_1 p489 q489
            skip
            obtain rfl : ad484 = ad489 := (by injection e489)
            replace hx489_0 := (HB.out.cell (World.block_lt_of_cell? w _ hx489_0)).trans hx489_0
            replace hx489_1 := (HB.out.cell (World.block_lt_of_cell? w _ hx489_1)).trans hx489_1
            replace hx489_2 := (HB.out.cell (World.block_lt_of_cell? w _ hx489_2)).trans hx489_2
            replace hx489_3 := (HB.out.cell (World.block_lt_of_cell? w _ hx489_3)).trans hx489_3
            replace hx489_4 := (HB.out.cell (World.block_lt_of_cell? w _ hx489_4)).trans hx489_4
            replace hx489_5 := (HB.out.cell (World.block_lt_of_cell? w _ hx489_5)).trans hx489_5
            replace hx489_6 := (HB.out.cell (World.block_lt_of_cell? w _ hx489_6)).trans hx489_6
            have HR489_6 := Aside0.mk hi489_6
            have HC489_6 := Aside0.mk hl489_6
            clear hi489_6 hl489_6
            replace p489 := eq_true p489
            replace q489 := eq_true q489
            have ea_ := Option.some.inj (hx484_6.symm.trans hx489_6)
            injection ea_ with ea_ en_ ec_
            subst ea_
            subst ec_
            clear en_
            have p22 : 0 ≤ (x17_1 : Int) := of_decide_eq_true (by assumption)
            have q22 : (x17_1 : Int) < ((x5_1.length : Int) : Int) := of_decide_eq_true (by assumption)
            obtain ⟨go22, co22, eo22, gb22, gl22, cl22, HG22⟩ := Kd.R_form HO_5.out (by omega)
            (cases eo22)
            have GB22 := Aside0.mk gb22
            have GG22 := Aside0.mk HG22
            clear gb22 gl22 HG22
            obtain ⟨hx22_0, hf22_0⟩ := Kd.R_celln 0 HO_5.out (x17_1 : Int) p22 q22
            replace p22 := eq_true p22
            replace q22 := eq_true q22
            have HP23 := Kd.R_putg HO_5.out (x17_1 : Int) (wrap64 (2 + (ji20)))
            go_wp2_with ((((with_reducible refine gate_store (t := 3) (p := 55) rfl ?_); refine store_event (t := 3) (p := 55) (v := ?vo_w24) (w1 := (wr.setCell ⟨go22, (x17_1 : Int).toNat, none⟩ (.int .i64 (wrap64 (2 + (ji20)))))) ?hg ?ho ?hn ?hr ?_; (case ho => rfl); (case hg => rfl); (case hn => rfl); (case hr => ((go_simp; done))); intro w24 hw; have hg : wr.grownBy w24 (some go22) := (by rw [hw]; exact HP23.2); have hp_ : Kd.R (Kd.int .i64) 3 w24 w.heap.size (fun _ => True) (.slice (some ⟨go22, 0, none⟩) x5_1.length co22) y490 := (by rw [hw, Ny490.out]; exact HP23.1); clear HP23; have n0_ := Aside0.mk (hp_); have n1_ := Aside0.mk ((by rw [hw]; exact below_set (HB.out) GB22.out : Below w.heap.size w w24)); clear HO_5; clear HB; have HO_5 := n0_; have HB := n1_; clear n0_ n1_; clear hg hw hp_; have p491 : 0 ≤ (x17_1 : Int) := of_decide_eq_true (by assumption); have q491 : x17_1 < (l0.length : Int) := of_decide_eq_true (by assumption); obtain ⟨ad491, A491_6, c491_6, e491, hx491_0, hx491_1, hx491_2, hx491_3, hx491_4, hx491_5, hx491_6, hl491_6, hi491_6⟩ := at_T56 HR0.out x17_1 p491 q491; obtain rfl : ad484 = ad491 := (by injection e491); replace hx491_0 := (HB.out.cell (World.block_lt_of_cell? w _ hx491_0)).trans hx491_0; replace hx491_1 := (HB.out.cell (World.block_lt_of_cell? w _ hx491_1)).trans hx491_1; replace hx491_2 := (HB.out.cell (World.block_lt_of_cell? w _ hx491_2)).trans hx491_2; replace hx491_3 := (HB.out.cell (World.block_lt_of_cell? w _ hx491_3)).trans hx491_3; replace hx491_4 := (HB.out.cell (World.block_lt_of_cell? w _ hx491_4)).trans hx491_4; replace hx491_5 := (HB.out.cell (World.block_lt_of_cell? w _ hx491_5)).trans hx491_5; replace hx491_6 := (HB.out.cell (World.block_lt_of_cell? w _ hx491_6)).trans hx491_6; have HR491_6 := Aside0.mk hi491_6; have HC491_6 := Aside0.mk hl491_6; clear hi491_6 hl491_6; replace p491 := eq_true p491; replace q491 := eq_true q491)))
            go_loopg [62] k1 (fun kq v62 w' => ∃ (x5_2 : List Int) (x62_2 : Int), v62 = .int .i64 x62_2 ∧ Aside0 (sexp_sizes.l1 kq l0 x5_2 x17_1 l1 (l1.length : Int) x17_1 ((rd_T56 l0 x17_1).f2) (((rd_T56 l0 x17_1).f2).length : Int) x62_2 = some r) ∧ Aside0 (kq ≤ k1) ∧ Aside0 (Kd.R (Kd.int .i64) 3 w' w.heap.size (fun _ => True) (.slice (some ⟨go22, 0, none⟩) x5_1.length co22) x5_2) ∧ Aside0 (Below w.heap.size w w'))
            case atStart => exact ⟨(y490), (0), (by rfl), H', ⟨Nat.le_refl _⟩, ⟨by exact HO_5.out⟩, ⟨by exact HB.out⟩⟩
            case round =>
             clear H'
             obtain ⟨x5_2, x62_2, rfl, HA, HK2, HO_5, HB⟩ := hrel
             have hl5_2 := (Kd.R_reads' HO_5.out).1
             rw [hl5_2] at HO_5
             (try simp only [hl5_2])
             cases gk with
             | zero => exact absurd HA.out (by simp [sexp_sizes.l1])
             | succ k2 =>
              have H := HA.out
              clear HA
              simp only [sexp_sizes.l1] at H
              by_cases c25 : x62_2 < (((rd_T56 l0 x17_1).f2).length : Int)
              ·rw [if_pos c25] at H
               have c25b0 : decide (x62_2 < (((rd_T56 l0 x17_1).f2).length : Int)) = true := decide_eq_true c25
               clear c25
               by_cases c26 : 0 ≤ x62_2
               ·rw [if_pos c26] at H
                have c26b0 : decide (0 ≤ x62_2) = true := decide_eq_true c26
                clear c26
                by_cases c27 : x62_2 < (((rd_T56 l0 x17_1).f2).length : Int)
                ·rw [if_pos c27] at H
                 have c27b0 : decide (x62_2 < (((rd_T56 l0 x17_1).f2).length : Int)) = true := decide_eq_true c27
                 clear c27
                 by_cases c28 : 0 ≤ x17_1
                 ·rw [if_pos c28] at H
                  have c28b0 : decide (0 ≤ x17_1) = true := decide_eq_true c28
                  clear c28
                  by_cases c29 : x17_1 < (x5_2.length : Int)
                  ·rw [if_pos c29] at H
                   have c29b0 : decide (x17_1 < (x5_2.length : Int)) = true := decide_eq_true c29
                   clear c29
                   by_cases c30 : 0 ≤ (rd ((rd_T56 l0 x17_1).f2) x62_2)
                   ·rw [if_pos c30] at H
                    have c30b0 : decide (0 ≤ (rd ((rd_T56 l0 x17_1).f2) x62_2)) = true := decide_eq_true c30
                    clear c30
                    by_cases c31 : (rd ((rd_T56 l0 x17_1).f2) x62_2) < (x5_2.length : Int)
                    ·rw [if_pos c31] at H
                     have c31b0 : decide ((rd ((rd_T56 l0 x17_1).f2) x62_2) < (x5_2.length : Int)) = true := decide_eq_true c31
                     clear c31
                     obtain ⟨ji32, hji32⟩ : ∃ j_ : Int, (mn (wrap64 ((rd x5_2 x17_1) + (rd x5_2 (rd ((rd_T56 l0 x17_1).f2) x62_2)))) 1048577) = j_ := ⟨_, rfl⟩
                     replace H : (sexp_sizes.l1 k2 l0 (x5_2.set (x17_1 : Int).toNat (ji32)) x17_1 l1 (l1.length : Int) x17_1 ((rd_T56 l0 x17_1).f2) (((rd_T56 l0 x17_1).f2).length : Int) (wrap64 (x62_2 + 1))) = some r := by ((rw [hji32] at H; exact H))
                     have hji32_ : (if 1048577 < (wrap64 ((rd x5_2 x17_1) + (rd x5_2 (rd ((rd_T56 l0 x17_1).f2) x62_2)))) then 1048577 else (wrap64 ((rd x5_2 x17_1) + (rd x5_2 (rd ((rd_T56 l0 x17_1).f2) x62_2))))) = ji32 := hji32
                     obtain ⟨y495, hy495⟩ : ∃ y_ : List Int, y_ = (x5_2.set (x17_1 : Int).toNat (ji32)) := ⟨_, rfl⟩
                     replace H : (sexp_sizes.l1 k2 l0 y495 x17_1 l1 (l1.length : Int) x17_1 ((rd_T56 l0 x17_1).f2) (((rd_T56 l0 x17_1).f2).length : Int) (wrap64 (x62_2 + 1))) = some r := by ((rw [hy495]; with_reducible exact H))
                     have Ny495 := Aside0.mk hy495
                     clear hy495
                     have H' := Aside0.mk H
                     clear H
                     have p492 : 0 ≤ (x62_2 : Int) := of_decide_eq_true (by assumption)
                     have q492 : x62_2 < (((rd_T56 l0 x17_1).f2).length : Int) := of_decide_eq_true (by assumption)
                     obtain ⟨ad492, e492, hx492_0⟩ := Kd.at_int HR491_6.out x62_2 p492 q492
                     cases e492
                     replace hx492_0 := (HB.out.cell (World.block_lt_of_cell? w _ hx492_0)).trans hx492_0
                     replace p492 := eq_true p492
                     replace q492 := eq_true q492
                     try go_wp2
                     have n0_ := Aside0.mk (Kd.R_drew HO_5.out)
                     have n1_ := Aside0.mk (below_drew1 HB.out)
                     clear HO_5
                     clear HB
                     have HO_5 := n0_
                     have HB := n1_
                     clear n0_ n1_
                     have p493 : 0 ≤ (x17_1 : Int) := of_decide_eq_true (by assumption)
                     have q493 : x17_1 < (x5_2.length : Int) := of_decide_eq_true (by assumption)
                     obtain ⟨ad493, e493, hx493_0⟩ := Kd.at_int (Kd.R_reads' HO_5.out).2.2 x17_1 p493 q493
                     obtain rfl : (⟨go22, 0, none⟩ : Addr) = ad493 := (by injection e493)
                     (simp only [add_plain] at hx493_0)
                     replace p493 := eq_true p493
                     replace q493 := eq_true q493
                     have p494 : 0 ≤ ((rd ((rd_T56 l0 x17_1).f2) x62_2) : Int) := of_decide_eq_true (by assumption)
                     have q494 : (rd ((rd_T56 l0 x17_1).f2) x62_2) < (x5_2.length : Int) := of_decide_eq_true (by assumption)
                     obtain ⟨ad494, e494, hx494_0⟩ := Kd.at_int (Kd.R_reads' HO_5.out).2.2 (rd ((rd_T56 l0 x17_1).f2) x62_2) p494 q494
                     obtain rfl : (⟨go22, 0, none⟩ : Addr) = ad494 := (by injection e494)
                     (simp only [add_plain] at hx494_0)
                     replace p494 := eq_true p494
                     replace q494 := eq_true q494
                     have p33 : 0 ≤ (x17_1 : Int) := of_decide_eq_true (by assumption)
                     have q33 : (x17_1 : Int) < ((x5_2.length : Int) : Int) := of_decide_eq_true (by assumption)
                     obtain ⟨hx33_0, hf33_0⟩ := Kd.R_celln 0 HO_5.out (x17_1 : Int) p33 q33
                     replace p33 := eq_true p33
                     replace q33 := eq_true q33
                     have HP35 := Kd.R_putn HO_5.out (x17_1 : Int) ji32
                     rw [← Ny495.out] at HP35
                     have HQ35 := Aside0.mk HP35
                     clear HP35
                     refine start_ (n := 14) (S := fun w' => w'.cell? ⟨go22, (x17_1).toNat, none⟩ = some (.int .i64 (rd x5_2 x17_1)) ∧ w'.cell? ⟨go22, ((rd ((rd_T56 l0 x17_1).f2) x62_2)).toNat, none⟩ = some (.int .i64 (rd x5_2 (rd ((rd_T56 l0 x17_1).f2) x62_2)))) (ds := [13]) #[false, false, false, false, false, false, false, false, false, false, false, false, false, false] (by kernel_rfl) rfl rfl ⟨hx493_0, hx494_0⟩ (fun hHeld => ?_); refine with_tabW sexp_sizes.tab13 sexp_sizes.bits13 (fun HT_ HW_ => ?_)
                     generalize wr.drew = w34 at HO_5 HB HQ35 hf33_0 hx33_0 hx493_0 hx494_0 hHeld ⊢
                     refine pure_ (i := 0) (N := some 66) (v := ?_) (a' := ?_) #[true, false, false, false, false, false, false, false, false, false, false, false, false, false] rfl rfl (any_of HT_.out (by kernel_rfl)) (fun _ _ _ h => h) (Or.inl ⟨by rfl, ?_⟩) ?_ ?_
                     rotate_left
                     ·intro w'
                      go_simp
                      with_reducible rfl
                     rotate_left
                     ·simp only [Act.put, List.setIfInBounds_toArray, List.set_cons_zero, List.set_cons_succ, i64_w, i32_w]
                      rfl
                     refine pure_ (i := 1) (N := some 67) (v := ?_) (a' := ?_) #[true, true, false, false, false, false, false, false, false, false, false, false, false, false] rfl rfl (any_of HT_.out (by kernel_rfl)) (fun _ _ _ h => h) (Or.inl ⟨by rfl, ?_⟩) ?_ ?_
                     rotate_left
                     ·intro w'
                      go_simp
                      with_reducible rfl
                     rotate_left
                     ·simp only [Act.put, List.setIfInBounds_toArray, List.set_cons_zero, List.set_cons_succ, i64_w, i32_w]
                      rfl
                     refine pure_ (i := 2) (N := some 68) (v := ?_) (a' := ?_) #[true, true, true, false, false, false, false, false, false, false, false, false, false, false] rfl rfl (any_of HT_.out (by kernel_rfl)) (fun _ _ _ h => h) (Or.inl ⟨by rfl, ?_⟩) ?_ ?_
                     rotate_left
                     ·intro w'
                      go_simp
                      with_reducible rfl
                     rotate_left
                     ·simp only [Act.put, List.setIfInBounds_toArray, List.set_cons_zero, List.set_cons_succ, i64_w, i32_w]
                      rfl
                     refine pure_ (i := 3) (N := some 69) (v := ?_) (a' := ?_) #[true, true, true, true, false, false, false, false, false, false, false, false, false, false] rfl rfl (any_of HT_.out (by kernel_rfl)) (fun _ _ _ h => h) (Or.inl ⟨by rfl, ?_⟩) ?_ ?_
                     rotate_left
                     ·intro w'
                      go_simp
                      with_reducible rfl
                     rotate_left
                     ·simp only [Act.put, List.setIfInBounds_toArray, List.set_cons_zero, List.set_cons_succ, i64_w, i32_w]
                      rfl
                     refine pure_ (i := 4) (N := some 70) (v := ?_) (a' := ?_) #[true, true, true, true, true, false, false, false, false, false, false, false, false, false] rfl rfl (any_of HT_.out (by kernel_rfl)) (fun _ _ _ h => h) (Or.inl ⟨by rfl, ?_⟩) ?_ ?_
                     rotate_left
                     ·intro w'
                      go_simp
                      with_reducible rfl
                     rotate_left
                     ·simp only [Act.put, List.setIfInBounds_toArray, List.set_cons_zero, List.set_cons_succ, i64_w, i32_w]
                      rfl
                     refine pure_ (i := 6) (N := some 72) (v := ?_) (a' := ?_) #[true, true, true, true, true, false, true, false, false, false, false, false, false, false] rfl rfl (any_of HT_.out (by kernel_rfl)) (fun _ _ _ h => h) (Or.inl ⟨by rfl, ?_⟩) ?_ ?_
                     rotate_left
                     ·intro w'
                      go_simp
                      with_reducible rfl
                     rotate_left
                     ·simp only [Act.put, List.setIfInBounds_toArray, List.set_cons_zero, List.set_cons_succ, i64_w, i32_w]
                      rfl
                     refine pure_ (i := 7) (N := some 73) (v := ?_) (a' := ?_) #[true, true, true, true, true, false, true, true, false, false, false, false, false, false] rfl rfl (any_of HT_.out (by kernel_rfl)) (fun _ _ _ h => h) (Or.inl ⟨by rfl, ?_⟩) ?_ ?_
                     rotate_left
                     ·intro w'
                      go_simp
                      with_reducible rfl
                     rotate_left
                     ·simp only [Act.put, List.setIfInBounds_toArray, List.set_cons_zero, List.set_cons_succ, i64_w, i32_w]
                      rfl
                     refine pure_ (i := 8) (N := some 74) (v := ?_) (a' := ?_) #[true, true, true, true, true, false, true, true, true, false, false, false, false, false] rfl rfl (any_of HT_.out (by kernel_rfl)) (fun _ _ _ h => h) (Or.inl ⟨by rfl, ?_⟩) ?_ ?_
                     rotate_left
                     ·intro w'
                      go_simp
                      with_reducible rfl
                     rotate_left
                     ·simp only [Act.put, List.setIfInBounds_toArray, List.set_cons_zero, List.set_cons_succ, i64_w, i32_w]
                      rfl
                     refine take_ (i := 5) (N := some 71) (v := ?_) (a' := ?_) #[true, true, true, true, true, true, true, true, true, false, false, false, false, false] rfl rfl (take_ofW HT_.out HW_.out (by kernel_rfl)) (fun _ _ _ h => h) (Or.inl ⟨by rfl, ?_⟩) hHeld ?_ ?_
                     rotate_left
                     ·rintro w' ⟨s0, s1⟩
                      go_simp
                      with_reducible rfl
                     rotate_left
                     ·simp only [Act.put, List.setIfInBounds_toArray, List.set_cons_zero, List.set_cons_succ, i64_w, i32_w]
                      rfl
                     refine take_ (i := 9) (N := some 75) (v := ?_) (a' := ?_) #[true, true, true, true, true, true, true, true, true, true, false, false, false, false] rfl rfl (take_ofW HT_.out HW_.out (by kernel_rfl)) (fun _ _ _ h => h) (Or.inl ⟨by rfl, ?_⟩) hHeld ?_ ?_
                     rotate_left
                     ·rintro w' ⟨s0, s1⟩
                      go_simp
                      with_reducible rfl
                     rotate_left
                     ·simp only [Act.put, List.setIfInBounds_toArray, List.set_cons_zero, List.set_cons_succ, i64_w, i32_w]
                      rfl
                     refine pure_ (i := 10) (N := some 76) (v := ?_) (a' := ?_) #[true, true, true, true, true, true, true, true, true, true, true, false, false, false] rfl rfl (any_of HT_.out (by kernel_rfl)) (fun _ _ _ h => h) (Or.inl ⟨by rfl, ?_⟩) ?_ ?_
                     rotate_left
                     ·intro w'
                      go_simp
                      with_reducible rfl
                     rotate_left
                     ·simp only [Act.put, List.setIfInBounds_toArray, List.set_cons_zero, List.set_cons_succ, i64_w, i32_w]
                      rfl
                     refine pure_ (i := 11) (N := some 77) (v := ?_) (a' := ?_) #[true, true, true, true, true, true, true, true, true, true, true, true, false, false] rfl rfl (any_of HT_.out (by kernel_rfl)) (fun _ _ _ h => h) (Or.inl ⟨by rfl, ?_⟩) ?_ ?_
                     rotate_left
                     ·intro w'
                      go_simp
                      with_reducible rfl
                     rotate_left
                     ·simp only [Act.put, List.setIfInBounds_toArray, List.set_cons_zero, List.set_cons_succ, i64_w, i32_w]
                      rfl
                     refine pure_ (i := 12) (N := some 78) (v := ?_) (a' := ?_) #[true, true, true, true, true, true, true, true, true, true, true, true, true, false] rfl rfl (any_of HT_.out (by kernel_rfl)) (fun _ _ _ h => h) (Or.inl ⟨by rfl, ?_⟩) ?_ ?_
                     rotate_left
                     ·intro w'
                      go_simp
                      with_reducible rfl
                     rotate_left
                     ·simp only [Act.put, List.setIfInBounds_toArray, List.set_cons_zero, List.set_cons_succ, i64_w, i32_w]
                      rfl
                     refine last_ (i := 13) (N := none) #[true, true, true, true, true, true, true, true, true, true, true, true, true, true] rfl rfl (one_of HT_.out (by kernel_rfl)) (by decide) (fun K hK => ?_)
                     refine skip_ (w1 := ?_) (by rfl) rfl ?_ ?_
                     rotate_left
                     ·go_simp
                      rfl
                     refine hK.out _ _ ?_
                     clear hK K
                     refine done_ (done_of HT_.out (by kernel_rfl)) ?_
                     try go_wp2
                     (try simp only [← hl5_2])
                     go_roundg k2
                     case measure => have := HK1.out; have := HK2.out; omega
                     case rel => exact ⟨(y495), (wrap64 (x62_2 + 1)), (by rfl), H', ⟨by have := HK1.out; have := HK2.out; omega⟩, ⟨by (try simp only [hl5_2]); exact HQ35.out⟩, ⟨by repeat ((with_reducible first | exact HB.out | refine below_set ?_ GB22.out))⟩⟩
                    ·rw [if_neg c31] at H
                     exact absurd H (by simp)
                   ·rw [if_neg c30] at H
                    exact absurd H (by simp)
                  ·rw [if_neg c29] at H
                   exact absurd H (by simp)
                 ·rw [if_neg c28] at H
                  exact absurd H (by simp)
                ·rw [if_neg c27] at H
                 exact absurd H (by simp)
               ·rw [if_neg c26] at H
                exact absurd H (by simp)
              ·rw [if_neg c25] at H
               have c25b0 : decide (x62_2 < (((rd_T56 l0 x17_1).f2).length : Int)) = false := decide_eq_false c25
               clear c25
               have H' := Aside0.mk H
               clear H
               go_wp2
               (try simp only [← hl5_2])
               go_roundg k2
               case measure => have := HK1.out; have := HK2.out; omega
               case rel => exact ⟨(x5_2), (wrap64 (x17_1 + 1)), (by rfl), H', ⟨by have := HK1.out; have := HK2.out; omega⟩, ⟨by (try simp only [hl5_2]); exact HO_5.out⟩, ⟨by exact HB.out⟩⟩
           ·rw [if_neg c21] at H
            exact absurd H (by simp)
         ·rw [if_neg c12] at H
          exact absurd H (by simp)
        ·replace c11 := Bool.eq_false_iff.mpr c11
         subst c11
         have H1 : (sexp_sizes.l0 k1 l0 x5_1 l1 (l1.length : Int) (wrap64 (x17_1 + 1))) = some r := by rw [if_neg (show ¬ (false = true) by decide)] at H; exact H
         clear H
         have H := H1
         clear H1
         have H' := Aside0.mk H
         clear H
         have p483 : 0 ≤ (x17_1 : Int) := of_decide_eq_true (by assumption)
         have q483 : x17_1 < (l1.length : Int) := of_decide_eq_true (by assumption)
         obtain ⟨ad483, e483, hx483_0⟩ := Kd.at_bool HR1.out x17_1 p483 q483
         (try rw [← Nbq10.out] at hx483_0)
         cases e483
         replace hx483_0 := (HB.out.cell (World.block_lt_of_cell? w _ hx483_0)).trans hx483_0
         replace p483 := eq_true p483
         replace q483 := eq_true q483
         go_wp2
         go_roundg k1
         case measure => have := HK1.out; omega
         case rel => exact ⟨(x5_1), (wrap64 (x17_1 + 1)), (by rfl), H', ⟨by have := HK1.out; omega⟩, ⟨by exact HO_5.out⟩, ⟨by exact HB.out⟩⟩
       ·rw [if_neg c9] at H
        exact absurd H (by simp)
      ·rw [if_neg c8] at H
       exact absurd H (by simp)
     ·rw [if_neg c7] at H
      have c7b0 : decide (x17_1 < (l1.length : Int)) = false := decide_eq_false c7
      clear c7
      obtain rfl := Option.some.inj H
      go_wp2
      go_ret
      exact ⟨_, by rfl, by exact HO_5.out, by exact HB.out⟩
  ·rw [if_neg c4] at H
   exact absurd H (by simp)
 ·rw [if_neg c3] at H
  exact absurd H (by simp)
end
section
open Go.RowKit Go.Proofs.YthklnopfgoekeaaGreatDoorW.PrintWords Go.Proofs.YthklnopfgoekeaaGreatDoorW.PrintLast Go.Proofs.YthklnopfgoekeaaGreatDoorW.PrintMore
set_option linter.unusedVariables false
set_option linter.unusedSimpArgs false

/-- A row of texts with blanks between. -/
def kidsL (f : Int → List UInt8) : Bool → List Int → List UInt8
  | _, [] => []
  | first, k :: ks => (if first = true then [] else [32]) ++ (f k ++ kidsL f false ks)
/-- The text of node i, by nodes nested at most so deep. -/
def sxL (l : List S56) : Nat → Int → List UInt8
  | 0, _ => []
  | d + 1, i => if (rd_T56 l i).f0 = 1 then (writeR (rd_T56 l i).f1.f0 (rd_T56 l i).f1.f1 (rd_T56 l i).f1.f2).1.data.toList
    else 40 :: (kidsL (sxL l d) true (rd_T56 l i).f2 ++ [41])
/-- Node i is there, and what its lists name, nested at most so deep. -/
def sndL (l : List S56) : Nat → Int → Bool
  | 0, _ => false
  | d + 1, i => decide (0 ≤ i) && decide (i < l.length) && (if (rd_T56 l i).f0 = 1 then decide ((rd_T56 l i).f1.f1.size ≤ 1099511627776) else (rd_T56 l i).f2.all (sndL l d))
theorem kidsL_snoc (f : Int → List UInt8) : ∀ (ks : List Int) (b : Bool) (k : Int), kidsL f b (ks ++ [k]) = kidsL f b ks ++ ((if (b = true ∧ ks = []) then [] else [32]) ++ f k)
  | [], b, k => by
    rw [List.nil_append, kidsL, kidsL, kidsL, List.nil_append, List.append_nil]
    cases b <;> simp
  | a :: ks, b, k => by
    rw [List.cons_append, kidsL, kidsL_snoc f ks false k, kidsL]
    simp
theorem kids_take (f : Int → List UInt8) (ks : List Int) (j : Nat) (h : j < ks.length) : kidsL f true (ks.take (j + 1)) = kidsL f true (ks.take j) ++ ((if j = 0 then [] else [32]) ++ f (rd ks j)) := by
  have e : rd ks (j : Int) = ks[j] := by
    unfold rd
    simp [h]
  rw [List.take_add_one, List.getElem?_eq_getElem h, Option.toList_some, kidsL_snoc, e]
  by_cases hj : j = 0
  · subst hj
    rw [if_pos ⟨rfl, rfl⟩, if_pos rfl]
  · rw [if_neg, if_neg hj]
    rintro ⟨_, h2⟩
    have := congrArg List.length h2
    rw [List.length_take, List.length_nil] at this
    omega
theorem bytes_snoc (acc : List UInt8) (c : UInt8) (v : Int) (hv : v = (c.toNat : Int)) : Lib.byteCells acc ++ [Value.int .u8 v] = Lib.byteCells (acc ++ [c]) := by
  subst hv
  simp [Lib.byteCells]
theorem kids_le (f : Int → List UInt8) (ks : List Int) (j : Nat) (h : j < ks.length) : (kidsL f true (ks.take j)).length + (if j = 0 then 0 else 1) + (f (rd ks j)).length ≤ (kidsL f true ks).length := by
  have h1 := kids_take f ks j h
  have mono : ∀ (a b : List Int) (x : Bool), (kidsL f x a).length ≤ (kidsL f x (a ++ b)).length := by
    intro a
    induction a with
    | nil => intro b x; rw [kidsL]; exact Nat.zero_le _
    | cons y a ih =>
      intro b x
      rw [List.cons_append, kidsL, kidsL, List.length_append, List.length_append, List.length_append, List.length_append]
      have := ih b false
      omega
  have h2 := mono (ks.take (j + 1)) (ks.drop (j + 1)) true
  rw [List.take_append_drop, h1, List.length_append, List.length_append] at h2
  split at h2 <;> split <;> simp_all <;> omega
set_option maxHeartbeats 8000000 in
set_option maxRecDepth 100000 in
theorem swrite_calls (l0 : List S56) (A0 : Option Addr) (c0 : Nat) (w0 : World) (g : Nat) (hr0 : Kd.C k56 w0 A0 l0.length l0) (hc0 : l0.length ≤ c0) : ∀ (d : Nat) (i : Int) (acc : List UInt8) (w : World), sndL l0 d i = true → Below w0.heap.size w0 w → Lib.IsBuilder 78 5 w0.heap.size g (Lib.byteCells acc) w → acc.length + (sxL l0 d i).length ≤ 1099511627776 →
    Calls Tryz.prog 43 #[.pointer (some ⟨g, 0, none⟩), .slice A0 l0.length c0, .int .i64 i] w fun e w' => e = .returned (.tuple #[]) ∧ Below w0.heap.size w0 w' ∧ Lib.IsBuilder 78 5 w0.heap.size g (Lib.byteCells (acc ++ sxL l0 d i)) w'
  | 0, i, acc, w, hs, hb, hI, hz => by cases hs
  | d + 1, i, acc, w, hs, hb, hI, hz => by
    have IH := Aside0.mk (swrite_calls l0 A0 c0 w0 g hr0 hc0 d)
    rw [sndL, Bool.and_eq_true, Bool.and_eq_true] at hs
    obtain ⟨⟨hi0, hi1⟩, hs⟩ := hs
    have hi0 := of_decide_eq_true hi0
    have hi1 := of_decide_eq_true hi1
    obtain ⟨ad, A6, c6, rfl, e0, e1, e2, e3, e4, e5, e6, hl6, hC6⟩ := at_T56 hr0 i hi0 hi1
    replace e0 := (hb.cell (World.block_lt_of_cell? w0 _ e0)).trans e0
    replace e1 := (hb.cell (World.block_lt_of_cell? w0 _ e1)).trans e1
    replace e2 := (hb.cell (World.block_lt_of_cell? w0 _ e2)).trans e2
    replace e3 := (hb.cell (World.block_lt_of_cell? w0 _ e3)).trans e3
    replace e4 := (hb.cell (World.block_lt_of_cell? w0 _ e4)).trans e4
    replace e5 := (hb.cell (World.block_lt_of_cell? w0 _ e5)).trans e5
    have e60 := e6
    replace e6 := (hb.cell (World.block_lt_of_cell? w0 _ e6)).trans e6
    have E6 := Aside0.mk e60
    clear e60
    have HC6 := Aside0.mk hC6
    have HB := Aside0.mk hb
    have HI := Aside0.mk hI
    have hX : sxL l0 (d + 1) i = if (rd_T56 l0 i).f0 = 1 then (writeR (rd_T56 l0 i).f1.f0 (rd_T56 l0 i).f1.f1 (rd_T56 l0 i).f1.f2).1.data.toList else 40 :: (kidsL (sxL l0 d) true (rd_T56 l0 i).f2 ++ [41]) := by rw [sxL]
    obtain ⟨n, hn⟩ : ∃ n, n = rd_T56 l0 i := ⟨_, rfl⟩
    rw [← hn] at e0 e1 e2 e3 e4 e5 e6 hl6 HC6 hX hs E6
    have hbw : w0.heap.size ≤ w.heap.size := hb.size
    clear hr0 hC6 hb hI hn
    cases h1 : (n.f0 == 1) with
    | true =>
      have h1' : n.f0 = 1 := by simpa using h1
      rw [if_pos h1'] at hX hs
      have hts := of_decide_eq_true hs
      have HX : Aside0 (sxL l0 (d + 1) i = (writeR n.f1.f0 n.f1.f1 n.f1.f2).1.data.toList) := ⟨hX⟩
      rw [hX] at hz
      clear hs hX h1'
      go_enter Tryz.func43, Tryz.ntmps43
      go_wp2_with fail
      refine (write_tells n.f1.f0 n.f1.f1 n.f1.f2 n.f1.f3 n.f1.f4 hts _).mono ?_
      rintro e w1 ⟨rfl, hb1⟩
      have HB1 := Aside0.mk (below_then HB.out HB.out.size hb1)
      have HI1 : Aside0 (Lib.IsBuilder 78 5 w0.heap.size g (Lib.byteCells acc) w1) := ⟨builder_below HI.out hb1⟩
      clear hb1
      obtain ⟨x, f, hwx⟩ : ∃ x f, writeR n.f1.f0 n.f1.f1 n.f1.f2 = (x, f) := ⟨_, _, rfl⟩
      rw [hwx] at hz ⊢
      have HW := Aside0.mk hwx
      clear hwx
      have hzx : acc.length + x.size ≤ 1099511627776 := hz
      go_wp2_with fail
      refine (Tryz.Builder_WriteString w0.heap.size g (Lib.byteCells acc) x w1 HI1.out (by rw [Lib.byteCells_length]; omega) HB1.out.size).mono ?_
      rintro e w2 ⟨rfl, hI2, hb2⟩
      rw [cells_join] at hI2
      have HB2 := Aside0.mk (HB1.out.trans hb2)
      have HI2 := Aside0.mk hI2
      clear hI2 hb2
      go_wp2
      refine bodyPost_ret (results_list (rs := []) rfl (by simp) .nil) rfl ?_
      refine ⟨rfl, HB2.out, ?_⟩
      rw [HX.out, HW.out]
      exact .inr HI2.out
    | false =>
      have h1' : ¬ n.f0 = 1 := by simpa using h1
      rw [if_neg h1'] at hX hs
      have HX : Aside0 (sxL l0 (d + 1) i = 40 :: (kidsL (sxL l0 d) true n.f2 ++ [41])) := ⟨hX⟩
      have HS : Aside0 (∀ j : Nat, j < n.f2.length → sndL l0 d (rd n.f2 j) = true) := ⟨fun j hj => by
        have e : rd n.f2 (j : Int) = n.f2[j] := by unfold rd; simp [hj]
        rw [e]
        exact List.all_eq_true.1 hs _ (List.getElem_mem hj)⟩
      rw [hX, List.length_cons, List.length_append, List.length_singleton] at hz
      have HZ : Aside0 (∀ j : Nat, j < n.f2.length → acc.length + 1 + (kidsL (sxL l0 d) true (n.f2.take j)).length + (if j = 0 then 0 else 1) + (sxL l0 d (rd n.f2 j)).length ≤ 1099511627776) := ⟨fun j hj => by
        have := kids_le (sxL l0 d) n.f2 j hj
        omega⟩
      have hza : acc.length ≤ 1099511627776 := by omega
      have hmx : n.f2.length ≤ 9223372036854775807 := by have := HC6.out.2.1; simpa [maxLen] using this
      have HZ2 := Aside0.mk hz
      clear hs hX h1' hz e1 e2 e3 e4 e5 e6
      go_enter Tryz.func43, Tryz.ntmps43
      go_wp2_with fail
      refine (Tryz.Builder_WriteByte w0.heap.size g (Lib.byteCells acc) 40 w HI.out (by rw [Lib.byteCells_length]; omega) hbw).mono ?_
      rintro e w1 ⟨rfl, hI1, hb1⟩
      rw [bytes_snoc acc 40 40 rfl] at hI1
      have HB1 : Aside0 (Below w0.heap.size w0 w1) := ⟨HB.out.trans hb1⟩
      have HI1 : Aside0 (Lib.IsBuilder 78 5 w0.heap.size g (Lib.byteCells (acc ++ 40 :: kidsL (sxL l0 d) true (n.f2.take 0))) w1) := ⟨.inr hI1⟩
      have e6 := (HB1.out.cell (World.block_lt_of_cell? w0 _ E6.out)).trans E6.out
      clear hI1 hb1 e0
      go_wp2
      go_loopw [36] (fun ix wr => ∃ (j : Nat), j ≤ n.f2.length ∧ ix = .int .i64 j ∧ Aside0 (Below w0.heap.size w0 wr) ∧ Aside0 (Lib.IsBuilder 78 5 w0.heap.size g (Lib.byteCells (acc ++ 40 :: kidsL (sxL l0 d) true (n.f2.take j))) wr)) (fun ix _ => n.f2.length - (intOf ix).toNat)
      case atStart => exact ⟨0, by omega, by go_num, HB1, HI1⟩
      case round =>
        obtain ⟨j, hj, rfl, HBr, HIr⟩ := hrel
        by_cases hlt : j < n.f2.length
        · obtain ⟨adk, rfl, ek⟩ := Kd.at_int (Kd.C_below HC6.out HBr.out) j (by omega) (by omega)
          simp only [Int.toNat_natCast] at ek
          have HZj := Aside0.mk (HZ.out j hlt)
          have HSj := Aside0.mk (HS.out j hlt)
          have HTj := Aside0.mk (kids_take (sxL l0 d) n.f2 j hlt)
          obtain ⟨kid, hkid⟩ : ∃ kid, kid = rd n.f2 j := ⟨_, rfl⟩
          rw [← hkid] at ek HZj HSj HTj
          clear hkid
          have hwj : wrap64 ((j : Int) + 1) = (j : Int) + 1 := by unfold wrap64; omega
          by_cases hj0 : j = 0
          · have hg : decide ((0 : Int) < (j : Int)) = false := decide_eq_false (by omega)
            have hg2 : decide (0 < j) = false := decide_eq_false (by omega)
            have HJ0 := Aside0.mk hj0
            clear hj0
            go_wp2_with fail
            refine (IH.out kid _ wr HSj.out HBr.out HIr.out (by have := HZj.out; rw [List.length_append, List.length_cons]; rw [if_pos HJ0.out] at this; omega)).mono ?_
            rintro e w3 ⟨rfl, hb3, hI3⟩
            have HB3 := Aside0.mk hb3
            have HI3 : Aside0 (Lib.IsBuilder 78 5 w0.heap.size g (Lib.byteCells (acc ++ 40 :: kidsL (sxL l0 d) true (n.f2.take (j + 1)))) w3) := ⟨by rw [HTj.out, if_pos HJ0.out, List.nil_append]; simpa using hI3⟩
            clear hb3 hI3
            go_wp2
            go_roundw
            case rel => exact ⟨j + 1, by omega, by go_num, HB3, HI3⟩
            case measure => simp [intOf]; omega
          · have hg : decide ((0 : Int) < (j : Int)) = true := decide_eq_true (by omega)
            have hg2 : decide (0 < j) = true := decide_eq_true (by omega)
            go_wp2_with fail
            refine (Tryz.Builder_WriteByte w0.heap.size g (Lib.byteCells (acc ++ 40 :: kidsL (sxL l0 d) true (n.f2.take j))) 32 wr HIr.out (by rw [Lib.byteCells_length, List.length_append, List.length_cons]; have := HZj.out; omega) HBr.out.size).mono ?_
            rintro e w2 ⟨rfl, hI2, hb2⟩
            rw [bytes_snoc _ 32 32 rfl] at hI2
            have HB2 : Aside0 (Below w0.heap.size w0 w2) := ⟨HBr.out.trans hb2⟩
            have HI2 := Aside0.mk hI2
            clear hI2 hb2
            go_wp2_with fail
            refine (IH.out kid _ w2 HSj.out HB2.out (.inr HI2.out) (by have := HZj.out; rw [List.length_append, List.length_append, List.length_cons, List.length_singleton]; rw [if_neg hj0] at this; omega)).mono ?_
            rintro e w3 ⟨rfl, hb3, hI3⟩
            have HB3 := Aside0.mk hb3
            have HI3 : Aside0 (Lib.IsBuilder 78 5 w0.heap.size g (Lib.byteCells (acc ++ 40 :: kidsL (sxL l0 d) true (n.f2.take (j + 1)))) w3) := ⟨by rw [HTj.out, if_neg hj0]; simpa using hI3⟩
            clear hb3 hI3
            go_wp2
            go_roundw
            case rel => exact ⟨j + 1, by omega, by go_num, HB3, HI3⟩
            case measure => simp [intOf]; omega
        · obtain rfl : j = n.f2.length := by omega
          go_wp2_with fail
          refine (Tryz.Builder_WriteByte w0.heap.size g (Lib.byteCells (acc ++ 40 :: kidsL (sxL l0 d) true (n.f2.take n.f2.length))) 41 wr HIr.out (by rw [Lib.byteCells_length, List.length_append, List.length_cons, List.take_length]; have := HZ2.out; omega) HBr.out.size).mono ?_
          rintro e w2 ⟨rfl, hI2, hb2⟩
          rw [bytes_snoc _ 41 41 rfl] at hI2
          have HB2 : Aside0 (Below w0.heap.size w0 w2) := ⟨HBr.out.trans hb2⟩
          have HI2 := Aside0.mk hI2
          clear hI2 hb2
          go_wp2
          go_end0
          refine ⟨rfl, HB2.out, ?_⟩
          rw [HX.out]
          have := HI2.out
          rw [List.take_length] at this
          refine .inr ?_
          simpa using this
/-- What Text answers behind asked and sizes. -/
def textEnd (l0 : List S56) (a1 : Int) (sz : List Int) : Option (ByteArray × Int) :=
  if 0 ≤ a1 ∧ a1 < (sz.length : Int) then (if rd sz a1 > 1048576 then some (⟨#[]⟩, 2) else
    (if sndL l0 (a1.toNat + 1) a1 = true ∧ (sxL l0 (a1.toNat + 1) a1).length ≤ 1099511627776 then some (strOf (sxL l0 (a1.toNat + 1) a1), 0) else none)) else none
def sexp_Text.f (k : Nat) (l0 : List (S56)) (a1 : Int) : Option (ByteArray × Int) := (sexp_asked.f k l0 a1).bind fun bt => (if bt.2 = 0 then ((sexp_sizes.f k l0 bt.1).bind fun sz => textEnd l0 a1 sz) else some (⟨#[]⟩, bt.2))
theorem sexp_Text.mono : ∀ l0 a1 k, LeO (sexp_Text.f k l0 a1) (sexp_Text.f (k + 1) l0 a1) := by
  intro l0 a1 k
  unfold sexp_Text.f
  refine LeO.bind (sexp_asked.mono _ _ _) (fun _ => ?_)
  refine LeO.ite ?_ (LeO.refl _)
  exact LeO.bind (sexp_sizes.mono _ _ _) (fun _ => LeO.refl _)
set_option maxHeartbeats 8000000 in
set_option maxRecDepth 100000 in
theorem sexp_Text.calls (k : Nat) (A0 : Option Addr) (c0 : Nat) (l0 : List (S56)) (a1 : Int) (r1 : ByteArray) (r2 : Int) (w : World) (hr0 : Kd.C k56 w A0 l0.length l0) (hc0 : l0.length ≤ c0) (h : sexp_Text.f k l0 a1 = some (r1, r2)) :
    Calls Tryz.prog 22 #[.slice A0 l0.length c0, .int .i64 a1] w fun e w' => e = .returned (.tuple #[.string r1, .int .i64 r2]) ∧ Below w.heap.size w w' := by
  unfold sexp_Text.f at h
  obtain ⟨⟨met, f⟩, hA, h⟩ := Option.bind_eq_some_iff.1 h
  have h : (if f = 0 then ((sexp_sizes.f k l0 met).bind fun sz => textEnd l0 a1 sz) else some (⟨#[]⟩, f)) = some (r1, r2) := h
  have HR := Aside0.mk hr0
  have HA := Aside0.mk hA
  have H := Aside0.mk h
  clear hr0 hA h
  go_enter Tryz.func22, Tryz.ntmps22
  go_wp2_with fail
  refine (sexp_asked.calls k A0 c0 l0 a1 met f w HR.out hc0 HA.out).mono ?_
  rintro e w1 ⟨v0, rfl, hM, hb1⟩
  have HB1 := Aside0.mk hb1
  obtain ⟨AM, cM, rfl, hcM, hCM⟩ := Kd.R_reads hM
  have HM := Aside0.mk hCM
  clear hM hCM hb1
  cases hf : (f != 0) with
  | true =>
    have HE : Aside0 (r1 = ⟨#[]⟩ ∧ r2 = f) := ⟨by
      have h := H.out
      rw [if_neg (by simpa using hf)] at h
      injection h with h
      injection h with h1 h2
      exact ⟨h1.symm, h2.symm⟩⟩
    go_wp2
    go_ret2
    rw [HE.out.1, HE.out.2]
    exact ⟨rfl, HB1.out⟩
  | false =>
    have h := H.out
    rw [if_pos (by simpa using hf)] at h
    obtain ⟨sz, hZ, h⟩ := Option.bind_eq_some_iff.1 h
    have HZ := Aside0.mk hZ
    have H2 := Aside0.mk h
    clear hZ h H
    go_wp2_with fail
    refine (sexp_sizes.calls k A0 c0 l0 AM cM met sz w1 (Kd.C_below HR.out HB1.out) hc0 HM.out hcM HZ.out).mono ?_
    rintro e w2 ⟨v1, rfl, hS, hb2⟩
    have HB2 := Aside0.mk (below_then HB1.out HB1.out.size hb2)
    obtain ⟨AS, cS, rfl, hcS, hCS⟩ := Kd.R_reads hS
    have HS := Aside0.mk hCS
    clear hS hCS hb2
    have h := H2.out
    unfold textEnd at h
    by_cases hin : 0 ≤ a1 ∧ a1 < (sz.length : Int)
    · rw [if_pos hin] at h
      obtain ⟨hi0, hi1⟩ := hin
      obtain ⟨ad, rfl, es⟩ := Kd.at_int HS.out a1 hi0 hi1
      have hq0 := eq_true hi0
      have hq1 := eq_true hi1
      by_cases hbig : rd sz a1 > 1048576
      · rw [if_pos hbig] at h
        have hg : decide (1048576 < rd sz a1) = true := decide_eq_true hbig
        injection h with h
        injection h with h1 h2
        subst h1 h2
        clear hbig
        go_wp2
        go_ret2
        exact ⟨rfl, HB2.out⟩
      · rw [if_neg hbig] at h
        have hg : decide (1048576 < rd sz a1) = false := decide_eq_false hbig
        split at h
        · rename_i hs
          injection h with h
          injection h with h1 h2
          subst h1 h2
          have HSN := Aside0.mk hs
          clear hbig hs
          go_wp2_with fail
          have HB3 : Aside0 (Below w.heap.size w (w2.alloc (.cells #[.pointer none, .slice none 0 0] 78))) := ⟨HB2.out.alloc HB2.out.size _⟩
          have HI3 : Aside0 (Lib.IsBuilder 78 5 w.heap.size w2.heap.size (Lib.byteCells []) (w2.alloc (.cells #[.pointer none, .slice none 0 0] 78))) := ⟨.inl ⟨HB2.out.size, .slice none 0 0, blk_new w2 _, own_nil _ _ _ _, by simp [Value.ownBlock]⟩⟩
          refine (swrite_calls l0 A0 c0 w w2.heap.size HR.out hc0 (a1.toNat + 1) a1 [] _ HSN.out.1 HB3.out HI3.out (by have := HSN.out.2; rw [List.length_nil, Nat.zero_add]; exact this)).mono ?_
          rintro e w4 ⟨rfl, hb4, hI4⟩
          rw [List.nil_append] at hI4
          have HB4 := Aside0.mk hb4
          have HI4 := Aside0.mk hI4
          clear hb4 hI4
          go_wp2_with fail
          refine (string_calls w.heap.size w2.heap.size _ w4 HI4.out HB4.out.size).mono ?_
          rintro e w5 ⟨rfl, hb5⟩
          have HB5 := Aside0.mk (HB4.out.trans hb5)
          clear hb5
          go_wp2
          go_ret2
          exact ⟨rfl, HB5.out⟩
        · cases h
    · rw [if_neg hin] at h
      cases h
end
end Go.Proofs.YthklnopfgoekeaaGreatDoor.X
