/- The reference's sound and Check at tables of nodes of moderate size. The reference's Depth: what sexp.Depth tells. -/
import Derived.Test.YthklnopfgoekeaaGreatDoorHRWrite
import Derived.Test.YthklnopfgoekeaaGreatDoorPText
import Derived.StillTailTactics
import Derived.Test.YthklnopfgoekeaaGreatDoorPDeep
namespace Go.Proofs.YthklnopfgoekeaaGreatDoor.X
section
open Go.RowKit Go.Proofs.YthklnopfgoekeaaGreatDoorW.PrintWords Go.Proofs.YthklnopfgoekeaaGreatDoorW.PrintLast Go.Proofs.YthklnopfgoekeaaGreatDoorW.PrintMore
set_option linter.unusedVariables false
set_option linter.unusedSimpArgs false
theorem wrap_up (k : Nat) (h : k ≤ 1099511627776) : wrap64 ((k : Int) + 1) = (k : Int) + 1 := by unfold wrap64; omega
theorem all_take {P : Int → Bool} (ks : List Int) (j : Nat) (h : j < ks.length) (ha : (ks.take j).all P = true) : (ks.take (j + 1)).all P = P (rd ks (j : Int)) := by
  have e : rd ks (j : Int) = ks[j] := by rw [rd_nat', List.getD_eq_getElem?_getD, List.getElem?_eq_getElem h]; rfl
  rw [List.take_add_one, List.getElem?_eq_getElem h, Option.toList_some, List.all_append, ha, e]
  simp
theorem all_false {P : Int → Bool} (ks : List Int) (j : Nat) (h : j < ks.length) (hp : P (rd ks (j : Int)) = false) : ks.all P = false := by
  have e : rd ks (j : Int) = ks[j] := by rw [rd_nat', List.getD_eq_getElem?_getD, List.getElem?_eq_getElem h]; rfl
  rw [e] at hp
  rw [List.all_eq_false]
  exact ⟨_, List.getElem_mem h, by rw [hp]; decide⟩
set_option maxHeartbeats 4000000 in
set_option maxRecDepth 100000 in
theorem rsound_tells (A0 : Option Addr) (c0 : Nat) (l0 : List S56) (i : Nat) (hi : i < l0.length) (w : World) (hr0 : Kd.C k56 w A0 l0.length l0) (hM : Mod l0) :
    Calls Tryz.prog 29 #[.slice A0 l0.length c0, .int .i64 i] w fun e w' => e = .returned (.bool (okN i (nd l0 i))) ∧ Below w.heap.size w w' := by
  have HC := Aside0.mk hr0
  have HT := Aside0.mk (hM.t i)
  have HK := Aside0.mk (hM.k i)
  obtain ⟨a0, A6, c6, rfl, e0, e1, e2, e3, e4, e5, e6, l6, g6⟩ := at_T56 HC.out (i : Int) (by omega) (by omega)
  rw [rd57_nd] at e0 e1 e2 e3 e4 e5 e6 l6 g6
  simp only [Int.toNat_natCast] at e0 e1 e2 e3 e4 e5 e6
  obtain ⟨x, hx⟩ : ∃ x, x = nd l0 i := ⟨_, rfl⟩
  rw [← hx] at e0 e1 e2 e3 e4 e5 e6 l6 g6 HT HK ⊢
  have G6 := Aside0.mk g6
  clear hM hr0 g6 l6 hx
  go_enter Tryz.func29, Tryz.ntmps29
  go_upto_region 2 with fail
  have hk56 := blk_new w (.cells #[.int .i64 x.f0, .int .i64 x.f1.f0, .string x.f1.f1, .bool x.f1.f2, .int .i64 x.f1.f3, .int .i64 x.f1.f4, .slice A6 x.f2.length c6] 56)
  obtain ⟨w1, hw1⟩ : ∃ w1, w1 = w.alloc (.cells #[.int .i64 x.f0, .int .i64 x.f1.f0, .string x.f1.f1, .bool x.f1.f2, .int .i64 x.f1.f3, .int .i64 x.f1.f4, .slice A6 x.f2.length c6] 56) := ⟨_, rfl⟩
  have HB1 : Aside0 (Below w.heap.size w w1) := ⟨by rw [hw1]; exact (Below.refl _ _).alloc (Nat.le_refl _) _⟩
  rw [← hw1] at hk56 ⊢
  have G1 := Aside0.mk (Kd.C_below G6.out HB1.out)
  have HX := Aside0.mk hk56
  have y0 : w1.cell? ⟨w.heap.size, 0, none⟩ = some (.int .i64 x.f0) := (blk_cell hk56 0).trans rfl
  have y1 : w1.cell? ⟨w.heap.size, 1, none⟩ = some (.int .i64 x.f1.f0) := (blk_cell hk56 1).trans rfl
  have y2 : w1.cell? ⟨w.heap.size, 2, none⟩ = some (.string x.f1.f1) := (blk_cell hk56 2).trans rfl
  have y3 : w1.cell? ⟨w.heap.size, 3, none⟩ = some (.bool x.f1.f2) := (blk_cell hk56 3).trans rfl
  have y4 : w1.cell? ⟨w.heap.size, 4, none⟩ = some (.int .i64 x.f1.f3) := (blk_cell hk56 4).trans rfl
  have y5 : w1.cell? ⟨w.heap.size, 5, none⟩ = some (.int .i64 x.f1.f4) := (blk_cell hk56 5).trans rfl
  clear hw1 hk56 e0 e1 e2 e3 e4 e5 e6 G6 HC
  by_cases h1 : x.f0 = 1
  · have h1b : (x.f0 == 1) = true := beq_iff_eq.2 h1
    have HE : Aside0 (okN i x = okT x.f1) := ⟨by unfold okN; rw [if_pos h1]⟩
    clear h1
    go_upto_region 3 with fail
    go_wp2_with fail
    refine (rwrite_tells x.f1.f0 x.f1.f1 x.f1.f2 x.f1.f3 x.f1.f4 HT.out w1).mono ?_
    rintro e_ w2 ⟨rfl, hb⟩
    have HB2 := Aside0.mk (below_then HB1.out HB1.out.size hb)
    have z1 : w2.cell? ⟨w.heap.size, 1, none⟩ = some (.int .i64 x.f1.f0) := (blk_cell (blk_below HX.out hb) 1).trans rfl
    clear hb y0 y1 y2 y3 y4 y5
    have HE2 : Aside0 (okN i x = ((writeR x.f1.f0 x.f1.f1 x.f1.f2).2 == 0 && !(x.f1.f0 == 1 || x.f1.f0 == 2))) := ⟨HE.out⟩
    obtain ⟨f, hf⟩ : ∃ f, f = (writeR x.f1.f0 x.f1.f1 x.f1.f2).2 := ⟨_, rfl⟩
    rw [← hf] at HE2 ⊢
    clear hf
    cases hf0 : (f == 0) with
    | false =>
      go_wp2
      go_ret
      rw [HE2.out, hf0]
      exact ⟨rfl, HB2.out⟩
    | true =>
      cases hk1 : (x.f1.f0 == 1) with
      | true =>
        have hk1b : (x.f1.f0 != 1) = false := by rw [bne, hk1]; rfl
        go_wp2
        go_ret
        rw [HE2.out, hf0, hk1]
        exact ⟨rfl, HB2.out⟩
      | false =>
        have hk1b : (x.f1.f0 != 1) = true := by rw [bne, hk1]; rfl
        cases hk2 : (x.f1.f0 == 2) with
        | true =>
          have hk2b : (x.f1.f0 != 2) = false := by rw [bne, hk2]; rfl
          go_wp2
          go_ret
          rw [HE2.out, hf0, hk1, hk2]
          exact ⟨rfl, HB2.out⟩
        | false =>
          have hk2b : (x.f1.f0 != 2) = true := by rw [bne, hk2]; rfl
          go_wp2
          go_ret
          rw [HE2.out, hf0, hk1, hk2]
          exact ⟨rfl, HB2.out⟩
  · have h1b : (x.f0 == 1) = false := beq_eq_false_iff_ne.2 h1
    by_cases h2 : x.f0 = 2
    · have h2b : (x.f0 != 2) = false := bne_eq_false_iff_eq.2 h2
      have HE : Aside0 (okN i x = x.f2.all (okK i)) := ⟨by unfold okN; rw [if_neg h1, beq_iff_eq.2 h2, Bool.true_and]⟩
      clear h1 h2 y1 y2 y3 y4 y5
      go_wp2
      go_loopw [8] (fun v wr => ∃ (j : Nat), j ≤ x.f2.length ∧ v = .int .i64 j ∧ Aside0 ((x.f2.take j).all (okK i) = true) ∧ Aside0 (Below w1.heap.size w1 wr)) (fun v _ => x.f2.length - (intOf v).toNat)
      case atStart => exact ⟨0, Nat.zero_le _, rfl, ⟨rfl⟩, ⟨Below.refl _ _⟩⟩
      case round =>
        clear y0
        obtain ⟨j, hj, rfl, HA, HB⟩ := hrel
        have y6 : wr.cell? ⟨w.heap.size, 6, none⟩ = some (.slice A6 x.f2.length c6) := (blk_cell (blk_below HX.out HB.out) 6).trans rfl
        by_cases hlt : j < x.f2.length
        · obtain ⟨a6, rfl, ej⟩ := Kd.at_int (Kd.C_below G1.out HB.out) j (by omega) (by omega)
          simp only [Int.toNat_natCast] at ej
          have HT2 := Aside0.mk (all_take (P := okK i) x.f2 j hlt HA.out)
          have HF2 := Aside0.mk (all_false (P := okK i) x.f2 j hlt)
          have HW := Aside0.mk (wrap_up j (by have := HK.out; omega))
          obtain ⟨k, hk⟩ : ∃ k, k = rd x.f2 (j : Int) := ⟨_, rfl⟩
          rw [← hk] at ej HT2 HF2
          clear hk
          by_cases hk0 : k < 0
          · have HP : Aside0 (okN i x = false) := ⟨by rw [HE.out]; exact HF2.out (by simp [okK]; omega)⟩
            go_wp2
            go_ret
            rw [HP.out]
            exact ⟨rfl, below_then HB1.out HB1.out.size HB.out⟩
          · by_cases hk1 : (i : Int) ≤ k
            · have HP : Aside0 (okN i x = false) := ⟨by rw [HE.out]; exact HF2.out (by simp [okK]; omega)⟩
              go_wp2
              go_ret
              rw [HP.out]
              exact ⟨rfl, below_then HB1.out HB1.out.size HB.out⟩
            · have HP : Aside0 ((x.f2.take (j + 1)).all (okK i) = true) := ⟨by rw [HT2.out]; simp [okK]; omega⟩
              go_wp2
              go_roundw
              case rel => exact ⟨j + 1, hlt, by first | rfl | exact congrArg (Value.int IntKind.i64) HW.out, HP, HB⟩
              case measure => rw [HW.out]; simp [intOf]; omega
        · obtain rfl : j = x.f2.length := by omega
          have HP : Aside0 (okN i x = true) := ⟨by rw [HE.out]; have := HA.out; rwa [List.take_length] at this⟩
          clear hlt hj
          go_wp2
          go_ret
          rw [HP.out]
          exact ⟨rfl, below_then HB1.out HB1.out.size HB.out⟩
    · have h2b : (x.f0 != 2) = true := bne_iff_ne.2 h2
      have HE : Aside0 (okN i x = false) := ⟨by unfold okN; rw [if_neg h1, beq_eq_false_iff_ne.2 h2, Bool.false_and]⟩
      clear h1 h2
      go_wp2
      go_ret
      rw [HE.out]
      exact ⟨rfl, HB1.out⟩
theorem mark_more (m : List Bool) (ks : List Int) (k : Int) : mark m (ks ++ [k]) = (mark m ks).set k.toNat true := by
  induction ks generalizing m with
  | nil => rfl
  | cons a ks ih => rw [List.cons_append, mark, mark, ih]
theorem mark_next (m : List Bool) (ks : List Int) (j : Nat) (h : j < ks.length) : mark m (ks.take (j + 1)) = (mark m (ks.take j)).set (rd ks (j : Int)).toNat true := by
  have e : rd ks (j : Int) = ks[j] := by rw [rd_nat', List.getD_eq_getElem?_getD, List.getElem?_eq_getElem h]; rfl
  rw [List.take_add_one, List.getElem?_eq_getElem h, Option.toList_some, mark_more, e]
def ksOf (n : S56) : List Int := if n.f0 = 1 then [] else n.f2
theorem markN_ks (m : List Bool) (n : S56) : markN m n = mark m (ksOf n) := by
  unfold markN ksOf
  split <;> rfl
theorem mark_getD : ∀ (ks : List Int) (m : List Bool) (i j : Nat), i ≤ m.length → ks.all (okK i) = true → (mark m ks).getD j false = (m.getD j false || ks.contains (j : Int))
  | [], m, i, j, hi, h => by rw [mark]; simp
  | a :: ks, m, i, j, hi, h => by
    rw [List.all_cons, Bool.and_eq_true] at h
    have ha := h.1
    simp only [okK, Bool.and_eq_true, decide_eq_true_eq] at ha
    rw [mark, mark_getD ks _ i j (by rw [List.length_set]; exact hi) h.2, getD_set m a.toNat j (by omega), List.contains_cons]
    by_cases hj : a.toNat = j
    · have e : ((j : Int) == a) = true := beq_iff_eq.2 (by omega)
      rw [if_pos hj, e]
      simp
    · have e : ((j : Int) == a) = false := beq_eq_false_iff_ne.2 (by omega)
      rw [if_neg hj, e, Bool.false_or]
theorem sndGo_agree (l : List S56) : ∀ (i : Nat) (m m' : List Bool), i ≤ m.length → i ≤ m'.length → (∀ j, j < i → m.getD j false = m'.getD j false) → (sndGo l i m).isSome = (sndGo l i m').isSome
  | 0, m, m', _, _, _ => rfl
  | i + 1, m, m', h, h', ha => by
    rw [sndGo, sndGo, ha i (by omega)]
    by_cases hm : m'.getD i false = true
    · rw [if_pos hm, if_pos hm]
      by_cases hok : okN i (nd l i) = true
      · rw [if_pos hok, if_pos hok]
        have hall : (ksOf (nd l i)).all (okK i) = true := by
          unfold okN at hok
          unfold ksOf
          split
          · rfl
          · rename_i h1
            rw [if_neg h1, Bool.and_eq_true] at hok
            exact hok.2
        refine sndGo_agree l i _ _ (by rw [markN_ks, mark_length]; omega) (by rw [markN_ks, mark_length]; omega) (fun j hj => ?_)
        rw [markN_ks, markN_ks, mark_getD _ m i j (by omega) hall, mark_getD _ m' i j (by omega) hall, ha j (by omega)]
      · rw [if_neg hok, if_neg hok]
    · rw [if_neg hm, if_neg hm]
      exact sndGo_agree l i m m' (by omega) (by omega) (fun j hj => ha j (by omega))
def metA (n i : Nat) : List Bool := (List.replicate n false).set i true
theorem ask_check (l : List S56) (i : Nat) (hi : i < l.length) : (askR l (i : Int)).2 = if (sndGo l (i + 1) (metA l.length i)).isSome = true then 0 else 73 := by
  have h := sndGo_agree l (i + 1) (met0 i) (metA l.length i) (by simp [met0]) (by simp [metA]; omega) (fun j hj => by
    rw [met0, metA, getD_set _ _ _ (by rw [List.length_replicate]; omega), getD_set _ _ _ (by rw [List.length_replicate]; omega)]
    split
    · rfl
    · rw [List.getD_eq_getElem?_getD, List.getD_eq_getElem?_getD, List.getElem?_replicate, List.getElem?_replicate, if_pos hj, if_pos (by omega)])
  unfold askR
  rw [if_neg (by omega), Int.toNat_natCast, ← h]
  cases sndGo l (i + 1) (met0 i) <;> rfl
theorem wrap_down (k : Nat) (h : k ≤ 1099511627776) : wrap64 ((k : Int) - 1) = (k : Int) - 1 := by unfold wrap64; omega
set_option maxHeartbeats 4000000 in
set_option maxRecDepth 100000 in
theorem rcheck_tells (A0 : Option Addr) (c0 : Nat) (l0 : List S56) (a1 : Int) (w : World) (hr0 : Kd.C k56 w A0 l0.length l0) (hM : Mod l0) :
    Calls Tryz.prog 28 #[.slice A0 l0.length c0, .int .i64 a1] w fun e w' => e = .returned (.int .i64 (askR l0 a1).2) ∧ Below w.heap.size w w' := by
  have HC := Aside0.mk hr0
  have HM := Aside0.mk hM
  clear hr0 hM
  by_cases h0 : a1 < 0
  · have HE : Aside0 ((askR l0 a1).2 = 1) := ⟨by unfold askR; rw [if_pos (.inl h0)]⟩
    go_enter Tryz.func28, Tryz.ntmps28
    go_wp2
    go_ret
    rw [HE.out]
    exact ⟨rfl, Below.refl _ _⟩
  · by_cases h1 : (l0.length : Int) ≤ a1
    · have HE : Aside0 ((askR l0 a1).2 = 1) := ⟨by unfold askR; rw [if_pos (.inr h1)]⟩
      go_enter Tryz.func28, Tryz.ntmps28
      go_wp2
      go_ret
      rw [HE.out]
      exact ⟨rfl, Below.refl _ _⟩
    · obtain ⟨i, rfl⟩ : ∃ i : Nat, a1 = (i : Int) := ⟨a1.toNat, by omega⟩
      have hi : i < l0.length := by omega
      have HE := Aside0.mk (ask_check l0 i hi)
      obtain ⟨S, hS⟩ : ∃ S, S = (sndGo l0 (i + 1) (metA l0.length i)).isSome := ⟨_, rfl⟩
      rw [← hS] at HE
      have HE' := HE
      have HN := Aside0.mk HM.out.n
      clear h0 h1
      have hln : ((l0.length : Nat) : Int).toNat * 1 ≤ 281474976710656 := by have := HN.out; omega
      have HL := Aside0.mk hln
      clear hln
      go_enter Tryz.func28, Tryz.ntmps28
      go_upto_region 4 with (refine Kd.R_make Kd.bool (w0 := w) (W := w) w.heap.size 4 rfl (N := 18) rfl 58 _ _ rfl (l0.length : Int) (by simp [Act.eval]) (by simp [Act.eval]) Tryz.underlying58 (.bool false) 1 info4 rfl (by decide) (by decide) false (ok := fun _ => True) (okp := fun _ => True) rfl (fun _ hk => hk) trivial (by omega) HL.out (Below.refl _ _) (Nat.le_refl _) ?_; intro v1 w1 hR hb _ _; rw [Int.toNat_natCast] at hR; have HR := Aside0.mk hR; have HB1 := Aside0.mk hb; clear hR hb)
      obtain ⟨g, cap, hv, gb, gl, _⟩ := Kd.R_form HR.out (by rw [List.length_replicate]; omega)
      rw [List.length_replicate] at hv
      subst hv
      have GB := Aside0.mk gb
      obtain ⟨k0, k1⟩ := Kd.R_celln false HR.out (i : Int) (by omega) (by omega)
      rw [Int.toNat_natCast] at k0 k1
      have HR1 := Aside0.mk (Kd.R_putg HR.out (i : Int) true).1
      clear gb gl HL
      go_wp2
      clear k0 k1
      go_loopw [6] (fun v wr => ∃ (q : Nat) (m : List Bool), v = .int .i64 ((q : Int) - 1) ∧ q ≤ i + 1 ∧ m.length = l0.length ∧ Aside0 ((sndGo l0 q m).isSome = S) ∧ Aside0 (Kd.R Kd.bool 4 wr w.heap.size (fun _ => True) (.slice (some ⟨g, 0, none⟩) l0.length cap) m) ∧ Aside0 (Below w.heap.size w wr)) (fun v _ => (intOf v + 1).toNat)
      case atStart => exact ⟨i + 1, metA l0.length i, by congr 1; omega, Nat.le_refl _, by simp [metA], ⟨hS.symm⟩, HR1, ⟨HB1.out.setCell GB.out _⟩⟩
      case round =>
        clear HR HR1 HB1 hS
        obtain ⟨q, m, rfl, hq, hml, HS, HR, HB⟩ := hrel
        rcases q with _ | q
        · have hSt : S = true := HS.out.symm
          go_wp2
          go_ret
          rw [HE.out, if_pos hSt]
          exact ⟨rfl, HB.out⟩
        · have e : (((q + 1 : Nat) : Int) - 1) = (q : Int) := by omega
          rw [e]
          obtain ⟨k0, k1⟩ := Kd.R_celln false HR.out (q : Int) (by omega) (by omega)
          rw [Int.toNat_natCast, rdOf_nat] at k0
          have HW := Aside0.mk (wrap_down q (by have := HN.out; omega))
          cases hmet : m.getD q false with
          | false =>
            rw [hmet] at k0
            have HS1 : Aside0 ((sndGo l0 q m).isSome = S) := ⟨by have := HS.out; rwa [sndGo, hmet, if_neg (by decide)] at this⟩
            go_wp2
            go_roundw
            case rel => exact ⟨q, m, by first | rfl | exact congrArg (Value.int IntKind.i64) HW.out, by omega, hml, HS1, HR, HB⟩
            case measure => rw [HW.out]; simp [intOf]
          | true =>
            rw [hmet] at k0
            have HS1 : Aside0 ((if okN q (nd l0 q) = true then sndGo l0 q (markN m (nd l0 q)) else none).isSome = S) := ⟨by have := HS.out; rwa [sndGo, hmet, if_pos rfl] at this⟩
            have hql : q < l0.length := by omega
            have HQ := Aside0.mk hql
            go_upto_region 9 with fail
            go_wp2_with fail
            refine (rsound_tells A0 c0 l0 q HQ.out wr (Kd.C_below HC.out HB.out) HM.out).mono ?_
            rintro e_ w2 ⟨rfl, hb⟩
            have HB2 := Aside0.mk (below_then HB.out HB.out.size hb)
            have HR2 := Aside0.mk (Kd.R_below HR.out hb)
            clear hb k0 k1 HR HB e
            cases hok : okN q (nd l0 q) with
            | false =>
              have hSt : S = false := by have := HS1.out; rw [hok, if_neg (by decide)] at this; exact this.symm
              go_wp2
              go_ret
              rw [HE.out, hSt, if_neg (by decide)]
              exact ⟨rfl, HB2.out⟩
            | true =>
              have HS2 : Aside0 ((sndGo l0 q (mark m (ksOf (nd l0 q)))).isSome = S) := ⟨by have := HS1.out; rwa [hok, if_pos rfl, markN_ks] at this⟩
              have hkin : ∀ k ∈ ksOf (nd l0 q), 0 ≤ k ∧ k < (q : Int) := by
                unfold ksOf
                split
                · intro k hk; cases hk
                · rename_i hne; exact (ok_kids hok hne).2
              have HKin := Aside0.mk hkin
              have Hok := Aside0.mk hok
              clear HS1 hkin hok HE
              go_wp2
              go_loopw [7] (fun v wr => ∃ (j : Nat), v = .int .i64 j ∧ j ≤ (ksOf (nd l0 q)).length ∧ Aside0 (Kd.R Kd.bool 4 wr w.heap.size (fun _ => True) (.slice (some ⟨g, 0, none⟩) l0.length cap) (mark m ((ksOf (nd l0 q)).take j))) ∧ Aside0 (Below w.heap.size w wr)) (fun v _ => (ksOf (nd l0 q)).length - (intOf v).toNat)
              case atStart => exact ⟨0, rfl, Nat.zero_le _, HR2, HB2⟩
              case round =>
                clear HR2 HB2
                obtain ⟨j, rfl, hj, HR, HB⟩ := hrel
                obtain ⟨b0, A6, c6, rfl, f0, f1, f2, f3, f4, f5, f6, l6, g6⟩ := at_T56 (Kd.C_below HC.out HB.out) (q : Int) (by omega) (by omega)
                rw [rd57_nd] at f0 f6 l6 g6
                simp only [Int.toNat_natCast] at f0 f6
                have HKl := Aside0.mk (HM.out.k q)
                obtain ⟨x, hx⟩ : ∃ x, x = nd l0 q := ⟨_, rfl⟩
                rw [← hx] at f0 f6 l6 g6 HR HKin Hok HS2 HKl hj ⊢
                have HWd := HW
                clear f1 f2 f3 f4 f5 l6 hx
                by_cases hlt : j < (ksOf x).length
                · have h1 : x.f0 ≠ 1 := fun h => by unfold ksOf at hlt; rw [if_pos h] at hlt; exact absurd hlt (by simp)
                  have hks : ksOf x = x.f2 := by unfold ksOf; rw [if_neg h1]
                  have h2b : (x.f0 == 2) = true := beq_iff_eq.2 (ok_kids Hok.out h1).1
                  rw [hks] at hlt hj HR HKin HS2 ⊢
                  obtain ⟨b6, rfl, ej⟩ := Kd.at_int g6 j (by omega) (by omega)
                  simp only [Int.toNat_natCast] at ej
                  have hk := HKin.out (rd x.f2 (j : Int)) (by rw [rd_nat', List.getD_eq_getElem?_getD, List.getElem?_eq_getElem hlt]; exact List.getElem_mem hlt)
                  have HNx := Aside0.mk (mark_next m x.f2 j hlt)
                  have HWj := Aside0.mk (wrap_up j (Nat.le_trans (Nat.le_of_lt hlt) HKl.out))
                  obtain ⟨k, hke⟩ : ∃ k, k = rd x.f2 (j : Int) := ⟨_, rfl⟩
                  rw [← hke] at ej hk HNx
                  obtain ⟨k0, k1⟩ := Kd.R_celln false HR.out k hk.1 (by have := HQ.out; omega)
                  have hk0 := hk.1
                  have hk9 : k < (l0.length : Int) := by have := HQ.out; omega
                  have HP := Aside0.mk (Kd.R_putg HR.out k true).1
                  clear g6 hke hk
                  go_wp2
                  go_roundw
                  case rel => exact ⟨j + 1, by first | rfl | exact congrArg (Value.int IntKind.i64) HWj.out, hlt, ⟨by rw [HNx.out]; exact HP.out⟩, ⟨HB.out.setCell GB.out _⟩⟩
                  case measure => rw [HWj.out]; simp [intOf]; omega
                · obtain rfl : j = (ksOf x).length := by omega
                  have hR := HR.out
                  rw [List.take_length] at hR
                  have HRf := Aside0.mk hR
                  clear hlt hj hR
                  by_cases h1 : x.f0 = 1
                  · have h2b : (x.f0 == 2) = false := by rw [h1]; rfl
                    clear g6
                    go_wp2
                    go_roundw
                    case rel => exact ⟨q, mark m (ksOf x), by first | rfl | exact congrArg (Value.int IntKind.i64) HW.out, by omega, by rw [mark_length]; exact hml, HS2, HRf, HB⟩
                    case measure => rw [HW.out]; simp [intOf]
                  · have hks : ksOf x = x.f2 := by unfold ksOf; rw [if_neg h1]
                    have h2b : (x.f0 == 2) = true := beq_iff_eq.2 (ok_kids Hok.out h1).1
                    rw [hks] at HRf HS2 ⊢
                    clear g6 h1
                    go_wp2
                    go_roundw
                    case rel => exact ⟨q, mark m x.f2, by first | rfl | exact congrArg (Value.int IntKind.i64) HW.out, by omega, by rw [mark_length]; exact hml, HS2, HRf, HB⟩
                    case measure => rw [HW.out]; simp [intOf]
end
section
open Go.RowKit Go.Proofs.YthklnopfgoekeaaGreatDoorW.PrintWords Go.Proofs.YthklnopfgoekeaaGreatDoorW.PrintLast Go.Proofs.YthklnopfgoekeaaGreatDoorW.PrintMore
set_option linter.unusedVariables false
set_option linter.unusedSimpArgs false
/-- The greatest entry that a list's kids have. -/
def mxk (f : Int → Int) : Int → List Int → Int
  | x, [] => x
  | x, k :: ks => mxk f (max x (f k)) ks
theorem mxk_snoc (f : Int → Int) : ∀ (ks : List Int) (x k : Int), mxk f x (ks ++ [k]) = max (mxk f x ks) (f k)
  | [], x, k => rfl
  | a :: ks, x, k => by rw [List.cons_append, mxk, mxk, mxk_snoc f ks]
theorem mxk_next (f : Int → Int) (ks : List Int) (j : Nat) (h : j < ks.length) : mxk f 0 (ks.take (j + 1)) = max (mxk f 0 (ks.take j)) (f (rd ks (j : Int))) := by
  have e : rd ks (j : Int) = ks[j] := by rw [rd_nat', List.getD_eq_getElem?_getD, List.getElem?_eq_getElem h]; rfl
  rw [List.take_add_one, List.getElem?_eq_getElem h, Option.toList_some, mxk_snoc, e]
theorem mxk_dmx (f : Int → Int) (L : Int → Nat) : ∀ (ks : List Int) (y : Nat), (∀ k ∈ ks, f k = (L k : Int)) → mxk f (y : Int) ks = ((max y (dmx L ks) : Nat) : Int)
  | [], y, h => by rw [mxk, dmx]; omega
  | k :: ks, y, h => by
    have e : max (y : Int) (f k) = ((max y (L k) : Nat) : Int) := by rw [h k (List.mem_cons_self ..)]; omega
    rw [mxk, e, mxk_dmx f L ks _ (fun k hk => h k (List.mem_cons_of_mem _ hk)), dmx]
    omega
theorem mxk_le (f : Int → Int) (N : Int) : ∀ (ks : List Int) (x : Int), 0 ≤ x → x ≤ N → (∀ k ∈ ks, f k ≤ N) → 0 ≤ mxk f x ks ∧ mxk f x ks ≤ N
  | [], x, h0, h1, h => ⟨h0, h1⟩
  | k :: ks, x, h0, h1, h => by
    have := h k (List.mem_cons_self ..)
    rw [mxk]
    exact mxk_le f N ks _ (by omega) (by omega) (fun k hk => h k (List.mem_cons_of_mem _ hk))
/-- What stands in the row of depths ahead of node i. -/
structure RD (l : List S56) (m : List Bool) (n i : Nat) (o : List Int) : Prop where
  len : o.length = n
  dp : ∀ q : Nat, q < i → m.getD q false = true → rd o (q : Int) = (dpN l q : Int)
  bd : ∀ q : Nat, 0 ≤ rd o (q : Int) ∧ rd o (q : Int) ≤ (q : Int) + 1
  z : ∀ q : Nat, i ≤ q → rd o (q : Int) = 0
theorem RD.skip {l : List S56} {m : List Bool} {n i : Nat} {o : List Int} (h : RD l m n i o) (hm : m.getD i false = true → dpN l i = 0) : RD l m n (i + 1) o := by
  refine ⟨h.len, fun q hq hqm => ?_, h.bd, fun q hq => h.z q (by omega)⟩
  rcases Nat.lt_or_ge q i with hlt | hge
  · exact h.dp q hlt hqm
  · obtain rfl : q = i := by omega
    rw [h.z q (Nat.le_refl _), hm hqm]
    rfl
theorem RD.list {l : List S56} {m : List Bool} {n i : Nat} {o : List Int} (hC : Clo l m n) (h : RD l m n i o) (hi : i < n) (hok : okN i (nd l i) = true) (h1 : (nd l i).f0 ≠ 1) :
    RD l m n (i + 1) (o.set i (mxk (fun k => rd o k) 0 (nd l i).f2 + 1)) ∧ 0 ≤ mxk (fun k => rd o k) 0 (nd l i).f2 ∧ mxk (fun k => rd o k) 0 (nd l i).f2 ≤ (i : Int) := by
  have hk := (ok_kids hok h1).2
  have hb := mxk_le (fun k => rd o k) (i : Int) (nd l i).f2 0 (by omega) (by omega) (fun k hkm => by
    have hk1 := hk k hkm
    obtain ⟨q, rfl⟩ : ∃ q : Nat, k = (q : Int) := ⟨k.toNat, by omega⟩
    have := (h.bd q).2
    show rd o (q : Int) ≤ _
    omega)
  have hl := h.len
  refine ⟨⟨by rw [List.length_set]; exact hl, fun q hq hqm => ?_, fun q => ?_, fun q hq => ?_⟩, hb⟩
  · rw [rd_set o i q _ (by omega)]
    split
    · rename_i e
      subst e
      have := mxk_dmx (fun k => rd o k) (fun k => dpN l k.toNat) (nd l i).f2 0 (fun k hkm => by
        have hk1 := hk k hkm
        have hk2 := hC.kid i hi hqm h1 k hkm
        obtain ⟨q, rfl⟩ : ∃ q : Nat, k = (q : Int) := ⟨k.toNat, by omega⟩
        rw [Int.toNat_natCast] at hk2 ⊢
        exact h.dp q (by omega) hk2)
      rw [dp_list hC hi hqm h1]
      simp only [Nat.zero_max] at this
      rw [show (0 : Int) = ((0 : Nat) : Int) by rfl, this]
      omega
    · exact h.dp q (by omega) hqm
  · rw [rd_set o i q _ (by omega)]
    split
    · omega
    · exact h.bd q
  · rw [rd_set o i q _ (by omega), if_neg (by omega)]
    exact h.z q (by omega)
theorem rd_rdOf (l : List Int) (i : Int) : rdOf 0 l i = rd l i := rfl
theorem small_up (x : Int) (h0 : 0 ≤ x) (h : x ≤ 1099511627776) : wrap64 (x + 1) = x + 1 := by unfold wrap64; omega
set_option maxHeartbeats 4000000 in
set_option maxRecDepth 100000 in
theorem rdepth_tells (A0 : Option Addr) (c0 : Nat) (l0 : List S56) (a1 : Int) (w : World) (hr0 : Kd.C k56 w A0 l0.length l0) (hM : Mod l0) :
    Calls Tryz.prog 10 #[.slice A0 l0.length c0, .int .i64 a1] w fun e w' => e = .returned (.tuple #[.int .i64 (depS l0 a1).1, .int .i64 (depS l0 a1).2]) ∧ Below w.heap.size w w' := by
  have HC := Aside0.mk hr0
  have HM := Aside0.mk hM
  clear hr0 hM
  go_enter Tryz.func10, Tryz.ntmps10
  go_wp2_with fail
  refine (rcheck_tells A0 c0 l0 a1 w HC.out HM.out).mono ?_
  rintro e_ w1 ⟨rfl, hb⟩
  have HB1 := Aside0.mk hb
  clear hb
  by_cases hf : (askR l0 a1).2 = 0
  · have HE : Aside0 (depS l0 a1 = ((dpN l0 a1.toNat : Int), 0)) := ⟨by rw [depS, if_pos hf]⟩
    obtain ⟨g0, g1, g2, g3, g4⟩ := ask_ok hf
    obtain ⟨i, rfl⟩ : ∃ i : Nat, a1 = (i : Int) := ⟨a1.toNat, by omega⟩
    rw [Int.toNat_natCast] at g2 g3 g4 HE
    obtain ⟨m, hm⟩ : ∃ m, m = (askR l0 (i : Int)).1 := ⟨_, rfl⟩
    rw [← hm] at g2 g3 g4
    rw [hf]
    have HCl := Aside0.mk g4
    have H3 := Aside0.mk g3
    have HN := Aside0.mk HM.out.n
    have HI : Aside0 (i < l0.length) := ⟨by omega⟩
    have HWi := Aside0.mk (small_up (i : Int) (by omega) (by have := HN.out; omega))
    have HL : Aside0 (((i : Int) + 1).toNat * 8 ≤ 281474976710656) := ⟨by have := HN.out; omega⟩
    clear g0 g1 g2 g3 g4 hm hf
    have hwi := HWi.out
    go_upto_region 5 with (refine Kd.R_make (Kd.int .i64) (w0 := w) (W := w1) w.heap.size 3 rfl (N := 18) rfl 31 _ _ rfl ((i : Int) + 1) (by simp [Act.eval, HWi.out]) (by simp [Act.eval, HWi.out]) Tryz.underlying31 (.int .i64 0) 8 info3 rfl (by decide) (by decide) 0 (ok := fun _ => True) (okp := fun _ => True) rfl (fun _ hk => hk) trivial (by omega) HL.out HB1.out HB1.out.size ?_; intro v1 w2 hR hb _ _; have HR := Aside0.mk hR; have HB2 := Aside0.mk hb; clear hR hb)
    clear hwi HB1
    have e1 : ((i : Int) + 1).toNat = i + 1 := by omega
    rw [e1] at HR
    obtain ⟨g, cap, hv, gb, gl, _⟩ := Kd.R_form HR.out (by rw [List.length_replicate]; omega)
    rw [List.length_replicate] at hv
    subst hv
    have GB := Aside0.mk gb
    clear gb gl e1 HL HWi
    go_wp2
    go_loopw [8] (fun v wr => ∃ (q : Nat) (o : List Int), v = .int .i64 q ∧ q ≤ i + 1 ∧ Aside0 (RD l0 m (i + 1) q o) ∧ Aside0 (Kd.R (Kd.int .i64) 3 wr w.heap.size (fun _ => True) (.slice (some ⟨g, 0, none⟩) (i + 1) cap) o) ∧ Aside0 (Below w.heap.size w wr)) (fun v _ => i + 1 - (intOf v).toNat)
    case atStart =>
      have hz : ∀ q : Nat, rd (List.replicate (i + 1) (0 : Int)) (q : Int) = 0 := fun q => by
        rw [rd_nat', List.getD_eq_getElem?_getD, List.getElem?_replicate]
        split <;> rfl
      exact ⟨0, _, rfl, Nat.zero_le _, ⟨⟨List.length_replicate, fun q hq => absurd hq (by omega), fun q => by rw [hz]; omega, fun q _ => hz q⟩⟩, HR, HB2⟩
    case round =>
      clear HR HB2
      obtain ⟨q, o, rfl, hq, HO, HR, HB⟩ := hrel
      by_cases hlt : q ≤ i
      · have hql : q < l0.length := by have := HI.out; omega
        have HQ := Aside0.mk hql
        have HW := Aside0.mk (small_up (q : Int) (by omega) (by have := HN.out; omega))
        obtain ⟨b0, A6, c6, rfl, f0, f1, f2, f3, f4, f5, f6, l6, g6⟩ := at_T56 (Kd.C_below HC.out HB.out) (q : Int) (by omega) (by omega)
        rw [rd57_nd] at f0 f6 l6 g6
        simp only [Int.toNat_natCast] at f0 f6
        have HKl := Aside0.mk (HM.out.k q)
        clear f1 f2 f3 f4 f5 l6 g6
        by_cases h2 : (nd l0 q).f0 = 2
        · have h2b : ((nd l0 q).f0 != 2) = false := bne_eq_false_iff_eq.2 h2
          have H2 := Aside0.mk h2
          clear h2 f6
          go_wp2_with fail
          refine (rsound_tells (some b0) c0 l0 q HQ.out wr (Kd.C_below HC.out HB.out) HM.out).mono ?_
          rintro e_ w3 ⟨rfl, hb⟩
          have HB3 := Aside0.mk (below_then HB.out HB.out.size hb)
          have HR3 := Aside0.mk (Kd.R_below HR.out hb)
          clear hb f0 h2b HB HR
          cases hok : okN q (nd l0 q) with
          | false =>
            have HO2 := Aside0.mk (HO.out.skip (fun hmet => by have := HCl.out.ok q (by omega) hmet; rw [hok] at this; exact absurd this (by decide)))
            go_wp2
            go_roundw
            case rel => exact ⟨q + 1, o, by first | rfl | exact congrArg (Value.int IntKind.i64) HW.out, by omega, HO2, HR3, HB3⟩
            case measure => rw [HW.out]; simp [intOf]; omega
          | true =>
            have hne : (nd l0 q).f0 ≠ 1 := by have := H2.out; omega
            have hL := HO.out.list HCl.out (by omega) hok hne
            have HO2 := Aside0.mk hL.1
            have HX := Aside0.mk hL.2
            have HKin := Aside0.mk (ok_kids hok hne).2
            have HOl := Aside0.mk HO.out.len
            have hs0 : o.set q (mxk (fun k => rd o k) 0 ((nd l0 q).f2.take 0)) = o := by
              have hz := HO.out.z q (Nat.le_refl _)
              rw [List.take_zero, mxk]
              have hlen := HO.out.len
              refine List.ext_getElem? (fun p => ?_)
              rw [List.getElem?_set]
              split
              · rename_i hp
                subst hp
                rw [rd_nat', List.getD_eq_getElem?_getD, List.getElem?_eq_getElem (by omega)] at hz
                rw [List.getElem?_eq_getElem (by omega)]
                simp only [Option.getD_some] at hz
                simp [hz]
                omega
              · rfl
            have HR4 : Aside0 (Kd.R (Kd.int .i64) 3 w3 w.heap.size (fun _ => True) (.slice (some ⟨g, 0, none⟩) (i + 1) cap) (o.set q (mxk (fun k => rd o k) 0 ((nd l0 q).f2.take 0)))) := ⟨by rw [hs0]; exact HR3.out⟩
            clear hL hne hok hs0 HR3
            go_wp2
            go_loopw [9] (fun v wr => ∃ (j : Nat), v = .int .i64 j ∧ j ≤ (nd l0 q).f2.length ∧ Aside0 (Kd.R (Kd.int .i64) 3 wr w.heap.size (fun _ => True) (.slice (some ⟨g, 0, none⟩) (i + 1) cap) (o.set q (mxk (fun k => rd o k) 0 ((nd l0 q).f2.take j)))) ∧ Aside0 (Below w.heap.size w wr)) (fun v _ => (nd l0 q).f2.length - (intOf v).toNat)
            case atStart => exact ⟨0, rfl, Nat.zero_le _, HR4, HB3⟩
            case round =>
              clear HR4 HB3
              obtain ⟨j, rfl, hj, HR, HB⟩ := hrel
              obtain ⟨b1, A6, c6, hA, f0, f1, f2, f3, f4, f5, f6, l6, g6⟩ := at_T56 (Kd.C_below HC.out HB.out) (q : Int) (by omega) (by omega)
              injection hA with hA
              subst hA
              rw [rd57_nd] at f6 l6 g6
              simp only [Int.toNat_natCast] at f6
              obtain ⟨x, hx⟩ : ∃ x, x = nd l0 q := ⟨_, rfl⟩
              rw [← hx] at f6 l6 g6 HR HKin HO2 HX HKl hj ⊢
              clear f0 f1 f2 f3 f4 f5 l6
              by_cases hlj : j < x.f2.length
              · obtain ⟨b6, rfl, ej⟩ := Kd.at_int g6 j (by omega) (by omega)
                simp only [Int.toNat_natCast] at ej
                have hk := HKin.out (rd x.f2 (j : Int)) (by rw [rd_nat', List.getD_eq_getElem?_getD, List.getElem?_eq_getElem hlj]; exact List.getElem_mem hlj)
                have hnx := mxk_next (fun k => rd o k) x.f2 j hlj
                have HWj := Aside0.mk (wrap_up j (Nat.le_trans (Nat.le_of_lt hlj) HKl.out))
                obtain ⟨k, hke⟩ : ∃ k : Nat, rd x.f2 (j : Int) = (k : Int) := ⟨(rd x.f2 (j : Int)).toNat, by omega⟩
                have HKe := Aside0.mk hke
                rw [hke] at ej hk hnx
                obtain ⟨X, hXe⟩ : ∃ X, X = mxk (fun k => rd o k) 0 (x.f2.take j) := ⟨_, rfl⟩
                rw [← hXe] at HR hnx
                obtain ⟨y, hy⟩ : ∃ y, y = rd o (k : Int) := ⟨_, rfl⟩
                have hnx' : mxk (fun k => rd o k) 0 (x.f2.take (j + 1)) = max X y := by rw [hy]; exact hnx
                have HNx := Aside0.mk hnx'
                obtain ⟨k0, k1⟩ := Kd.R_celln 0 HR.out (k : Int) (by omega) (by omega)
                obtain ⟨m0, m1⟩ := Kd.R_celln 0 HR.out (q : Int) (by omega) (by omega)
                rw [rd_rdOf, rd_set o q k X (by rw [HOl.out]; omega), if_neg (by omega), Int.toNat_natCast, ← hy] at k0
                rw [rd_rdOf, rd_set o q q X (by rw [HOl.out]; omega), if_pos rfl, Int.toNat_natCast] at m0
                rw [Int.toNat_natCast] at k1 m1
                have HP := Aside0.mk (Kd.R_putg HR.out (q : Int) y).1
                have hk9 : (k : Int) < ((i + 1 : Nat) : Int) := by omega
                have hq9 : (q : Int) < ((i + 1 : Nat) : Int) := by omega
                have HS1 : Aside0 (X < y → o.set q (mxk (fun k => rd o k) 0 (x.f2.take (j + 1))) = (o.set q X).set (q : Int).toNat y) := ⟨fun h => by rw [hnx', Int.toNat_natCast, List.set_set, Int.max_eq_right (by omega)]⟩
                have HS2 : Aside0 (¬ X < y → o.set q (mxk (fun k => rd o k) 0 (x.f2.take (j + 1))) = o.set q X) := ⟨fun h => by rw [hnx', Int.max_eq_left (by omega)]⟩
                have HXx := Aside0.mk hx
                have HYy := Aside0.mk hy
                have hqk : ¬ q = k := by omega
                clear g6 hke hnx hnx' hXe hy hk hx
                by_cases hxy : X < y
                · go_wp2
                  go_quiet (fail)
                  clear k0 k1 m0 m1 ej f6 HP
                  generalize hw4 : World.drewN _ _ = w4
                  have HB4 : Aside0 (Below w.heap.size w w4) := ⟨by rw [← hw4]; exact pw_below_drewN HB.out _⟩
                  have HR4 : Aside0 (Kd.R (Kd.int .i64) 3 w4 w.heap.size (fun _ => True) (.slice (some ⟨g, 0, none⟩) (i + 1) cap) (o.set q X)) := ⟨by rw [← hw4]; exact Kd.R_drewN HR.out _⟩
                  clear hw4 HB HR
                  obtain ⟨b1, A6, c6, hA, f0, f1, f2, f3, f4, f5, f6, l6, g6⟩ := at_T56 (Kd.C_below HC.out HB4.out) (q : Int) (by omega) (by omega)
                  injection hA with hA
                  subst hA
                  rw [rd57_nd] at f6 l6 g6
                  simp only [Int.toNat_natCast] at f6
                  rw [← HXx.out] at f6 l6 g6
                  clear f0 f1 f2 f3 f4 f5 l6
                  obtain ⟨b6, rfl, ej⟩ := Kd.at_int g6 j (by omega) (by omega)
                  simp only [Int.toNat_natCast] at ej
                  rw [HKe.out] at ej
                  obtain ⟨k0, k1⟩ := Kd.R_celln 0 HR4.out (k : Int) (by omega) (by omega)
                  obtain ⟨m0, m1⟩ := Kd.R_celln 0 HR4.out (q : Int) (by omega) (by omega)
                  rw [rd_rdOf, rd_set o q k X (by rw [HOl.out]; omega), if_neg hqk, Int.toNat_natCast, ← HYy.out] at k0
                  rw [rd_rdOf, rd_set o q q X (by rw [HOl.out]; omega), if_pos rfl, Int.toNat_natCast] at m0
                  rw [Int.toNat_natCast] at k1 m1
                  have HP := Aside0.mk (Kd.R_putg HR4.out (q : Int) y).1
                  clear g6
                  go_wp2
                  go_roundw
                  case rel => exact ⟨j + 1, by first | rfl | exact congrArg (Value.int IntKind.i64) HWj.out, hlj, ⟨by rw [HS1.out hxy]; exact HP.out⟩, ⟨HB4.out.setCell GB.out _⟩⟩
                  case measure => rw [HWj.out]; simp [intOf]; omega
                · go_wp2
                  go_quiet (fail)
                  clear k0 k1 m0 m1 ej f6 HP
                  generalize hw4 : World.drewN _ _ = w4
                  have HB4 : Aside0 (Below w.heap.size w w4) := ⟨by rw [← hw4]; exact pw_below_drewN HB.out _⟩
                  have HR4 : Aside0 (Kd.R (Kd.int .i64) 3 w4 w.heap.size (fun _ => True) (.slice (some ⟨g, 0, none⟩) (i + 1) cap) (o.set q X)) := ⟨by rw [← hw4]; exact Kd.R_drewN HR.out _⟩
                  clear hw4
                  go_wp2
                  go_roundw
                  case rel => exact ⟨j + 1, by first | rfl | exact congrArg (Value.int IntKind.i64) HWj.out, hlj, ⟨by rw [HS2.out hxy]; exact HR4.out⟩, HB4⟩
                  case measure => rw [HWj.out]; simp [intOf]; omega
              · obtain rfl : j = x.f2.length := by omega
                have hR := HR.out
                rw [List.take_length] at hR
                obtain ⟨X, hXe⟩ : ∃ X, X = mxk (fun k => rd o k) 0 x.f2 := ⟨_, rfl⟩
                rw [← hXe] at hR HX HO2
                obtain ⟨m0, m1⟩ := Kd.R_celln 0 hR (q : Int) (by omega) (by omega)
                rw [rd_rdOf, rd_set o q q X (by rw [HOl.out]; omega), if_pos rfl, Int.toNat_natCast] at m0
                rw [Int.toNat_natCast] at m1
                have HWX := Aside0.mk (small_up X HX.out.1 (by have := HX.out.2; have := HN.out; omega))
                have HP := Aside0.mk (Kd.R_putg hR (q : Int) (wrap64 (X + 1))).1
                have HS1 : Aside0 (o.set q (X + 1) = (o.set q X).set (q : Int).toNat (wrap64 (X + 1))) := ⟨by rw [HWX.out, Int.toNat_natCast, List.set_set]⟩
                have hq9 : (q : Int) < ((i + 1 : Nat) : Int) := by omega
                clear g6 hXe hR hlj hj HR
                go_wp2
                go_roundw
                case rel => exact ⟨q + 1, o.set q (X + 1), by first | rfl | exact congrArg (Value.int IntKind.i64) HW.out, by omega, HO2, ⟨by rw [HS1.out]; exact HP.out⟩, ⟨HB.out.setCell GB.out _⟩⟩
                case measure => rw [HW.out]; simp [intOf]; omega
        · have h2b : ((nd l0 q).f0 != 2) = true := bne_iff_ne.2 h2
          have HO2 := Aside0.mk (HO.out.skip (fun hmet => by
            have hok := HCl.out.ok q (by omega) hmet
            have h1 : (nd l0 q).f0 = 1 := by
              by_cases h : (nd l0 q).f0 = 1
              · exact h
              · exact absurd (ok_kids hok h).1 h2
            exact dp_atom h1))
          clear f6 h2
          go_wp2
          go_roundw
          case rel => exact ⟨q + 1, o, by first | rfl | exact congrArg (Value.int IntKind.i64) HW.out, by omega, HO2, HR, HB⟩
          case measure => rw [HW.out]; simp [intOf]; omega
      · obtain rfl : q = i + 1 := by omega
        obtain ⟨k0, k1⟩ := Kd.R_celln 0 HR.out (i : Int) (by omega) (by omega)
        rw [rd_rdOf, HO.out.dp i (by omega) H3.out, Int.toNat_natCast] at k0
        rw [Int.toNat_natCast] at k1
        have hi9 : (i : Int) < ((i + 1 : Nat) : Int) := by omega
        clear hlt hq
        go_wp2
        go_ret2
        rw [HE.out]
        exact ⟨rfl, HB.out⟩
  · have HE : Aside0 (depS l0 a1 = (0, (askR l0 a1).2)) := ⟨by rw [depS, if_neg hf]⟩
    obtain ⟨f, hff⟩ : ∃ f, f = (askR l0 a1).2 := ⟨_, rfl⟩
    rw [← hff] at hf HE ⊢
    have hfb : (f != 0) = true := bne_iff_ne.2 hf
    clear hff hf
    go_wp2
    go_ret2
    rw [HE.out]
    exact ⟨rfl, HB1.out⟩
end
end Go.Proofs.YthklnopfgoekeaaGreatDoor.X
