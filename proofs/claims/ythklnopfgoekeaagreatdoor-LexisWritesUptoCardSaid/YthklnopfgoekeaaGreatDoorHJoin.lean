import Derived.Test.YthklnopfgoekeaaGreatDoorHWrite
import Derived.Test.YthklnopfgoekeaaGreatDoorHHash
namespace Go.Proofs.YthklnopfgoekeaaGreatDoor.X
open Go.RowKit Go.Proofs.YthklnopfgoekeaaGreatDoorW.PrintWords Go.Proofs.YthklnopfgoekeaaGreatDoorW.PrintLast Go.Proofs.YthklnopfgoekeaaGreatDoorW.PrintMore
set_option linter.unusedVariables false

/-- The rest of a line: g: no space ahead; acc: what has been written. -/
def joinGo : List S37 → Bool → List UInt8 → List UInt8 × Int
  | [], _, acc => if acc.length ≤ 1048576 then (acc, 0) else ([], 2)
  | t :: ts, g, acc => if (writeR t.f0 t.f1 t.f2).2 = 0 then
      joinGo ts (t.f0 == 1) (if (if (g || t.f0 == 2) = true then acc else acc ++ [32]).length ≤ 1048576 then txt (if (g || t.f0 == 2) = true then acc else acc ++ [32]) (writeR t.f0 t.f1 t.f2).1 else (if (g || t.f0 == 2) = true then acc else acc ++ [32]))
    else ([], (writeR t.f0 t.f1 t.f2).2)
def joinR (l : List S37) : ByteArray × Int := (strOf (joinGo l true []).1, (joinGo l true []).2)
theorem writeR_size (k : Int) (tx : ByteArray) (q : Bool) : (writeR k tx q).1.size ≤ 1048576 := by
  unfold writeR
  split
  · rename_i h; exact h.1
  · show 0 ≤ _; omega
theorem space_cells (acc : List UInt8) : Lib.byteCells acc ++ [Value.int .u8 32] = Lib.byteCells (acc ++ [32]) := by
  simp [Lib.byteCells]
/-- Is the token at the line's head, or behind an open bracket? -/
def glue (l : List S37) (k : Nat) : Bool := k == 0 || (rd_T37 l ((k : Int) - 1)).f0 == 1
theorem glue_next (l : List S37) (k : Nat) : glue l (k + 1) = ((rd_T37 l k).f0 == 1) := by
  unfold glue
  have e : ((k + 1 : Nat) : Int) - 1 = k := by omega
  rw [e]
  simp
theorem drop_at {l : List S37} {k : Nat} (h : k < l.length) : l.drop k = rd_T37 l k :: l.drop (k + 1) := by
  rw [List.drop_eq_getElem_cons h]
  congr 1
  unfold rd_T37
  simp [h]
theorem joinGo_fault {t : S37} {ts : List S37} {g : Bool} {acc : List UInt8} {x : ByteArray} {f : Int} (hw : writeR t.f0 t.f1 t.f2 = (x, f)) (hf : (f != 0) = true) : joinGo (t :: ts) g acc = ([], f) := by
  rw [joinGo, hw, if_neg (by simpa using hf)]
theorem joinGo_put {t : S37} {ts : List S37} {g : Bool} {acc acc1 : List UInt8} {x : ByteArray} {f : Int} (hw : writeR t.f0 t.f1 t.f2 = (x, f)) (hf : (f != 0) = false) (ha : (if (g || t.f0 == 2) = true then acc else acc ++ [32]) = acc1) (hl : acc1.length ≤ 1048576) : joinGo (t :: ts) g acc = joinGo ts (t.f0 == 1) (txt acc1 x) := by
  rw [joinGo, hw, if_pos (by simpa using hf), ha, if_pos hl]
theorem joinGo_full {t : S37} {ts : List S37} {g : Bool} {acc acc1 : List UInt8} {x : ByteArray} {f : Int} (hw : writeR t.f0 t.f1 t.f2 = (x, f)) (hf : (f != 0) = false) (ha : (if (g || t.f0 == 2) = true then acc else acc ++ [32]) = acc1) (hl : ¬ acc1.length ≤ 1048576) : joinGo (t :: ts) g acc = joinGo ts (t.f0 == 1) acc1 := by
  rw [joinGo, hw, if_pos (by simpa using hf), ha, if_neg hl]
set_option maxHeartbeats 4000000 in
set_option maxRecDepth 100000 in
theorem join_tells (A0 : Option Addr) (c0 : Nat) (l0 : List S37) (w : World) (hr0 : Kd.C k37 w A0 l0.length l0) (hc0 : l0.length ≤ c0) (hn : l0.length ≤ 1099511627776) (ht : ∀ k : Nat, k < l0.length → (rd_T37 l0 k).f1.size ≤ 1099511627776) :
    Calls Tryz.prog 41 #[.slice A0 l0.length c0] w fun e w' => e = .returned (.tuple #[.string (joinR l0).1, .int .i64 (joinR l0).2]) ∧ Below w.heap.size w w' := by
  have HR := Aside0.mk hr0
  have HT := Aside0.mk ht
  clear hr0 ht
  go_enter Tryz.func41, Tryz.ntmps41
  go_wp2
  go_loopw [11] (fun i wr => ∃ (k : Nat) (acc : List UInt8), k ≤ l0.length ∧ i = .int .i64 k ∧ Aside0 (acc.length ≤ 2097153 + k) ∧ Aside0 (joinGo (l0.drop k) (glue l0 k) acc = joinGo l0 true []) ∧ Aside0 (Below w.heap.size w wr) ∧ Aside0 (Lib.IsBuilder 78 5 w.heap.size w.heap.size (Lib.byteCells acc) wr)) (fun i _ => l0.length - (intOf i).toNat)
  case atStart => exact ⟨0, [], by omega, by go_num, ⟨by simp⟩, ⟨rfl⟩, ⟨(Below.refl _ _).alloc (Nat.le_refl _) _⟩, ⟨builder_fresh w⟩⟩
  case round =>
    obtain ⟨k, acc, hk, rfl, HL, HQ, HB, HI⟩ := hrel
    by_cases hlt : k < l0.length
    · obtain ⟨ad, rfl, e0, e1, e2, e3, e4⟩ := at_T37 (Kd.C_below HR.out HB.out) k (by omega) (by omega)
      simp only [Int.toNat_natCast] at e0 e1 e2 e3 e4
      have HTk := Aside0.mk (HT.out k hlt)
      have HD := Aside0.mk (drop_at hlt)
      obtain ⟨t, htk⟩ : ∃ t, t = rd_T37 l0 k := ⟨_, rfl⟩
      have HG := Aside0.mk (glue_next l0 k)
      rw [← htk] at e0 e1 e2 e3 e4 HTk HD HG
      clear htk
      go_wp2_with fail
      refine (write_tells t.f0 t.f1 t.f2 t.f3 t.f4 HTk.out _).mono ?_
      rintro e w1 ⟨rfl, hb1⟩
      have hxs := writeR_size t.f0 t.f1 t.f2
      obtain ⟨x, f, hwx⟩ : ∃ x f, writeR t.f0 t.f1 t.f2 = (x, f) := ⟨_, _, rfl⟩
      rw [hwx] at hxs ⊢
      have HW := Aside0.mk hwx
      have hxs : x.size ≤ 1048576 := hxs
      have HBw1 : Aside0 (Below w.heap.size w w1) := ⟨below_then (HB.out.alloc HB.out.size _) (by simpa using Nat.le_succ_of_le HB.out.size) hb1⟩
      have HIw1 : Aside0 (Lib.IsBuilder 78 5 w.heap.size w.heap.size (Lib.byteCells acc) w1) := ⟨builder_below HI.out (below_step (below_alloc (Below.refl _ _) _) hb1)⟩
      have hk1 := blk_below (blk_new wr (.cells #[.int .i64 t.f0, .string t.f1, .bool t.f2, .int .i64 t.f3, .int .i64 t.f4] 37)) hb1
      obtain ⟨d0, d1, d2, d3, d4⟩ := box37 hk1
      clear hwx hb1 e0 e1 e2 e3 e4 d1 d2 d3 d4 hk1
      cases hf : (f != 0) with
      | true =>
        have HE : Aside0 (joinR l0 = (strOf [], f)) := ⟨by unfold joinR; rw [← HQ.out, HD.out, joinGo_fault HW.out hf]⟩
        go_wp2
        go_ret2
        rw [HE.out]
        exact ⟨rfl, HBw1.out⟩
      | false =>
        by_cases hk0 : k = 0
        · subst hk0
          have hg : decide ((0 : Int) < ((0 : Nat) : Int)) = false := rfl
          have HA : Aside0 ((if (glue l0 0 || t.f0 == 2) = true then acc else acc ++ [32]) = acc) := ⟨by rw [if_pos (by simp [glue])]⟩
          by_cases hle : (acc).length ≤ 1048576
          · have hg2 : decide ((((acc).length : Nat) : Int) ≤ 1048576) = true := decide_eq_true (by omega)
            have HS := Aside0.mk (joinGo_put (ts := l0.drop (0 + 1)) HW.out hf HA.out hle)
            go_wp2_with fail
            refine (Tryz.Builder_Len w.heap.size w.heap.size (Lib.byteCells (acc)) w1 HIw1.out).mono ?_
            rintro e w8 ⟨rfl, rfl⟩
            rw [Lib.byteCells_length]
            go_wp2_with fail
            refine (Tryz.Builder_WriteString w.heap.size w.heap.size (Lib.byteCells (acc)) x _ HIw1.out (by rw [Lib.byteCells_length]; omega) HBw1.out.size).mono ?_
            rintro e w9 ⟨rfl, hI9, hb9⟩
            rw [cells_join] at hI9
            have HB9 : Aside0 (Below w.heap.size w w9) := ⟨HBw1.out.trans hb9⟩
            have HI9 : Aside0 (Lib.IsBuilder 78 5 w.heap.size w.heap.size (Lib.byteCells (txt (acc) x)) w9) := ⟨.inr hI9⟩
            have HL9 : Aside0 ((txt (acc) x).length ≤ 2097153 + (0 + 1)) := ⟨by rw [txt_length]; omega⟩
            clear hI9 hb9
            go_wp2
            go_roundw
            case rel => exact ⟨0 + 1, _, by omega, by go_num, HL9, ⟨by rw [HG.out, ← HS.out, ← HD.out]; exact HQ.out⟩, HB9, HI9⟩
            case measure => simp [intOf]; omega
          · have hg2 : decide ((((acc).length : Nat) : Int) ≤ 1048576) = false := decide_eq_false (by omega)
            have HS := Aside0.mk (joinGo_full (ts := l0.drop (0 + 1)) HW.out hf HA.out hle)
            have HL9 : Aside0 ((acc).length ≤ 2097153 + (0 + 1)) := ⟨by have := HL.out; first | omega | (simp only [List.length_append, List.length_cons, List.length_nil]; omega)⟩
            go_wp2_with fail
            refine (Tryz.Builder_Len w.heap.size w.heap.size (Lib.byteCells (acc)) w1 HIw1.out).mono ?_
            rintro e w8 ⟨rfl, rfl⟩
            rw [Lib.byteCells_length]
            go_wp2
            go_roundw
            case rel => exact ⟨0 + 1, _, by omega, by go_num, HL9, ⟨by rw [HG.out, ← HS.out, ← HD.out]; exact HQ.out⟩, HBw1, HIw1⟩
            case measure => simp [intOf]; omega
        · have hg : decide ((0 : Int) < (k : Int)) = true := decide_eq_true (by omega)
          have hwr := wrap_in ((k : Int) - 1) (by omega) (by omega)
          obtain ⟨ad', had, p0, p1, p2, p3, p4⟩ := at_T37 (Kd.C_below HR.out HBw1.out) ((k : Int) - 1) (by omega) (by omega)
          injection had with had
          subst had
          clear p1 p2 p3 p4
          have hkn : ((k : Int) - 1).toNat = k - 1 := by omega
          rw [hkn] at p0
          clear hkn
          have HGl : Aside0 (glue l0 k = ((rd_T37 l0 ((k : Int) - 1)).f0 == 1)) := ⟨by unfold glue; rw [beq_eq_false_iff_ne.2 hk0]; rfl⟩
          obtain ⟨p, hp⟩ : ∃ p, p = (rd_T37 l0 ((k : Int) - 1)).f0 := ⟨_, rfl⟩
          rw [← hp] at p0 HGl
          clear hp
          cases hp1 : (p != 1) with
          | false =>
            have HA : Aside0 ((if (glue l0 k || t.f0 == 2) = true then acc else acc ++ [32]) = acc) := ⟨by rw [if_pos (by rw [HGl.out]; simp at hp1 ⊢; exact .inl hp1)]⟩
            by_cases hle : (acc).length ≤ 1048576
            · have hg2 : decide ((((acc).length : Nat) : Int) ≤ 1048576) = true := decide_eq_true (by omega)
              have HS := Aside0.mk (joinGo_put (ts := l0.drop (k + 1)) HW.out hf HA.out hle)
              go_wp2_with fail
              refine (Tryz.Builder_Len w.heap.size w.heap.size (Lib.byteCells (acc)) w1 HIw1.out).mono ?_
              rintro e w8 ⟨rfl, rfl⟩
              rw [Lib.byteCells_length]
              go_wp2_with fail
              refine (Tryz.Builder_WriteString w.heap.size w.heap.size (Lib.byteCells (acc)) x _ HIw1.out (by rw [Lib.byteCells_length]; omega) HBw1.out.size).mono ?_
              rintro e w9 ⟨rfl, hI9, hb9⟩
              rw [cells_join] at hI9
              have HB9 : Aside0 (Below w.heap.size w w9) := ⟨HBw1.out.trans hb9⟩
              have HI9 : Aside0 (Lib.IsBuilder 78 5 w.heap.size w.heap.size (Lib.byteCells (txt (acc) x)) w9) := ⟨.inr hI9⟩
              have HL9 : Aside0 ((txt (acc) x).length ≤ 2097153 + (k + 1)) := ⟨by rw [txt_length]; omega⟩
              clear hI9 hb9
              go_wp2
              go_roundw
              case rel => exact ⟨k + 1, _, by omega, by go_num, HL9, ⟨by rw [HG.out, ← HS.out, ← HD.out]; exact HQ.out⟩, HB9, HI9⟩
              case measure => simp [intOf]; omega
            · have hg2 : decide ((((acc).length : Nat) : Int) ≤ 1048576) = false := decide_eq_false (by omega)
              have HS := Aside0.mk (joinGo_full (ts := l0.drop (k + 1)) HW.out hf HA.out hle)
              have HL9 : Aside0 ((acc).length ≤ 2097153 + (k + 1)) := ⟨by have := HL.out; first | omega | (simp only [List.length_append, List.length_cons, List.length_nil]; omega)⟩
              go_wp2_with fail
              refine (Tryz.Builder_Len w.heap.size w.heap.size (Lib.byteCells (acc)) w1 HIw1.out).mono ?_
              rintro e w8 ⟨rfl, rfl⟩
              rw [Lib.byteCells_length]
              go_wp2
              go_roundw
              case rel => exact ⟨k + 1, _, by omega, by go_num, HL9, ⟨by rw [HG.out, ← HS.out, ← HD.out]; exact HQ.out⟩, HBw1, HIw1⟩
              case measure => simp [intOf]; omega
          | true =>
            cases ht2 : (t.f0 != 2) with
            | false =>
              have HA : Aside0 ((if (glue l0 k || t.f0 == 2) = true then acc else acc ++ [32]) = acc) := ⟨by rw [if_pos (by rw [HGl.out]; simp at ht2 ⊢; exact .inr ht2)]⟩
              by_cases hle : (acc).length ≤ 1048576
              · have hg2 : decide ((((acc).length : Nat) : Int) ≤ 1048576) = true := decide_eq_true (by omega)
                have HS := Aside0.mk (joinGo_put (ts := l0.drop (k + 1)) HW.out hf HA.out hle)
                go_wp2_with fail
                refine (Tryz.Builder_Len w.heap.size w.heap.size (Lib.byteCells (acc)) w1 HIw1.out).mono ?_
                rintro e w8 ⟨rfl, rfl⟩
                rw [Lib.byteCells_length]
                go_wp2_with fail
                refine (Tryz.Builder_WriteString w.heap.size w.heap.size (Lib.byteCells (acc)) x _ HIw1.out (by rw [Lib.byteCells_length]; omega) HBw1.out.size).mono ?_
                rintro e w9 ⟨rfl, hI9, hb9⟩
                rw [cells_join] at hI9
                have HB9 : Aside0 (Below w.heap.size w w9) := ⟨HBw1.out.trans hb9⟩
                have HI9 : Aside0 (Lib.IsBuilder 78 5 w.heap.size w.heap.size (Lib.byteCells (txt (acc) x)) w9) := ⟨.inr hI9⟩
                have HL9 : Aside0 ((txt (acc) x).length ≤ 2097153 + (k + 1)) := ⟨by rw [txt_length]; omega⟩
                clear hI9 hb9
                go_wp2
                go_roundw
                case rel => exact ⟨k + 1, _, by omega, by go_num, HL9, ⟨by rw [HG.out, ← HS.out, ← HD.out]; exact HQ.out⟩, HB9, HI9⟩
                case measure => simp [intOf]; omega
              · have hg2 : decide ((((acc).length : Nat) : Int) ≤ 1048576) = false := decide_eq_false (by omega)
                have HS := Aside0.mk (joinGo_full (ts := l0.drop (k + 1)) HW.out hf HA.out hle)
                have HL9 : Aside0 ((acc).length ≤ 2097153 + (k + 1)) := ⟨by have := HL.out; first | omega | (simp only [List.length_append, List.length_cons, List.length_nil]; omega)⟩
                go_wp2_with fail
                refine (Tryz.Builder_Len w.heap.size w.heap.size (Lib.byteCells (acc)) w1 HIw1.out).mono ?_
                rintro e w8 ⟨rfl, rfl⟩
                rw [Lib.byteCells_length]
                go_wp2
                go_roundw
                case rel => exact ⟨k + 1, _, by omega, by go_num, HL9, ⟨by rw [HG.out, ← HS.out, ← HD.out]; exact HQ.out⟩, HBw1, HIw1⟩
                case measure => simp [intOf]; omega
            | true =>
              have HA : Aside0 ((if (glue l0 k || t.f0 == 2) = true then acc else acc ++ [32]) = acc ++ [32]) := ⟨by rw [if_neg (by rw [HGl.out]; simp at hp1 ht2 ⊢; exact ⟨hp1, ht2⟩)]⟩
              go_wp2_with fail
              refine (Tryz.Builder_WriteByte w.heap.size w.heap.size (Lib.byteCells acc) 32 w1 HIw1.out (by rw [Lib.byteCells_length]; have := HL.out; omega) HBw1.out.size).mono ?_
              rintro e w2 ⟨rfl, hI2, hb2⟩
              rw [space_cells] at hI2
              have HBw2 : Aside0 (Below w.heap.size w w2) := ⟨HBw1.out.trans hb2⟩
              have HIw2 : Aside0 (Lib.IsBuilder 78 5 w.heap.size w.heap.size (Lib.byteCells (acc ++ [32])) w2) := ⟨.inr hI2⟩
              clear hI2 hb2
              obtain ⟨ac2, hac2⟩ : ∃ ac2, ac2 = acc ++ [32] := ⟨_, rfl⟩
              have HL2 : Aside0 (ac2.length ≤ 2097153 + (k + 1)) := ⟨by have := HL.out; rw [hac2]; simp only [List.length_append, List.length_cons, List.length_nil]; omega⟩
              rw [← hac2] at HIw2
              have HA2 : Aside0 ((if (glue l0 k || t.f0 == 2) = true then acc else acc ++ [32]) = ac2) := ⟨by rw [hac2]; exact HA.out⟩
              clear hac2
              by_cases hle : ac2.length ≤ 1048576
              · have hg2 : decide (((ac2.length : Nat) : Int) ≤ 1048576) = true := decide_eq_true (by omega)
                have HS := Aside0.mk (joinGo_put (ts := l0.drop (k + 1)) HW.out hf HA2.out hle)
                go_wp2_with fail
                refine (Tryz.Builder_Len w.heap.size w.heap.size (Lib.byteCells ac2) w2 HIw2.out).mono ?_
                rintro e w8 ⟨rfl, rfl⟩
                rw [Lib.byteCells_length]
                go_wp2_with fail
                refine (Tryz.Builder_WriteString w.heap.size w.heap.size (Lib.byteCells ac2) x _ HIw2.out (by rw [Lib.byteCells_length]; omega) HBw2.out.size).mono ?_
                rintro e w9 ⟨rfl, hI9, hb9⟩
                rw [cells_join] at hI9
                have HB9 : Aside0 (Below w.heap.size w w9) := ⟨HBw2.out.trans hb9⟩
                have HI9 : Aside0 (Lib.IsBuilder 78 5 w.heap.size w.heap.size (Lib.byteCells (txt ac2 x)) w9) := ⟨.inr hI9⟩
                have HL9 : Aside0 ((txt ac2 x).length ≤ 2097153 + (k + 1)) := ⟨by rw [txt_length]; omega⟩
                clear hI9 hb9
                go_wp2
                go_roundw
                case rel => exact ⟨k + 1, _, by omega, by go_num, HL9, ⟨by rw [HG.out, ← HS.out, ← HD.out]; exact HQ.out⟩, HB9, HI9⟩
                case measure => simp [intOf]; omega
              · have hg2 : decide (((ac2.length : Nat) : Int) ≤ 1048576) = false := decide_eq_false (by omega)
                have HS := Aside0.mk (joinGo_full (ts := l0.drop (k + 1)) HW.out hf HA2.out hle)
                have HL9 : Aside0 (ac2.length ≤ 2097153 + (k + 1)) := ⟨by have := HL2.out; omega⟩
                go_wp2_with fail
                refine (Tryz.Builder_Len w.heap.size w.heap.size (Lib.byteCells ac2) w2 HIw2.out).mono ?_
                rintro e w8 ⟨rfl, rfl⟩
                rw [Lib.byteCells_length]
                go_wp2
                go_roundw
                case rel => exact ⟨k + 1, _, by omega, by go_num, HL9, ⟨by rw [HG.out, ← HS.out, ← HD.out]; exact HQ.out⟩, HBw2, HIw2⟩
                case measure => simp [intOf]; omega
    · obtain rfl : k = l0.length := by omega
      have HQ2 : Aside0 (joinGo [] (glue l0 l0.length) acc = joinGo l0 true []) := ⟨by have := HQ.out; rw [List.drop_length] at this; exact this⟩
      by_cases hle : acc.length ≤ 1048576
      · have hg2 : decide ((1048576 : Int) < ((acc.length : Nat) : Int)) = false := decide_eq_false (by omega)
        have HE : Aside0 (joinR l0 = (strOf acc, 0)) := ⟨by unfold joinR; rw [← HQ2.out, joinGo, if_pos hle]⟩
        go_wp2_with fail
        refine (Tryz.Builder_Len w.heap.size w.heap.size (Lib.byteCells acc) wr HI.out).mono ?_
        rintro e w8 ⟨rfl, rfl⟩
        rw [Lib.byteCells_length]
        go_wp2_with fail
        refine (string_calls w.heap.size w.heap.size acc _ HI.out HB.out.size).mono ?_
        rintro e w3 ⟨rfl, hb3⟩
        have HB3 := Aside0.mk (HB.out.trans hb3)
        clear hb3
        go_wp2
        go_ret2
        rw [HE.out]
        exact ⟨rfl, HB3.out⟩
      · have hg2 : decide ((1048576 : Int) < ((acc.length : Nat) : Int)) = true := decide_eq_true (by omega)
        have HE : Aside0 (joinR l0 = (strOf [], 2)) := ⟨by unfold joinR; rw [← HQ2.out, joinGo, if_neg hle]⟩
        go_wp2_with fail
        refine (Tryz.Builder_Len w.heap.size w.heap.size (Lib.byteCells acc) wr HI.out).mono ?_
        rintro e w8 ⟨rfl, rfl⟩
        rw [Lib.byteCells_length]
        go_wp2
        go_ret2
        rw [HE.out]
        exact ⟨rfl, HB.out⟩
def lexis_Join.f (l0 : List (S37)) : Option (ByteArray × Int) := if l0.length ≤ 1099511627776 ∧ l0.all (fun t => decide (t.f1.size ≤ 1099511627776)) = true then some (joinR l0) else none
theorem lexis_Join.calls (A0 : Option Addr) (c0 : Nat) (l0 : List (S37)) (r1 : ByteArray) (r2 : Int) (w : World) (hr0 : Kd.C k37 w A0 l0.length l0) (hc0 : l0.length ≤ c0) (h : lexis_Join.f l0 = some (r1, r2)) :
    Calls Tryz.prog 41 #[.slice A0 l0.length c0] w fun e w' => e = .returned (.tuple #[.string r1, .int .i64 r2]) ∧ Below w.heap.size w w' := by
  unfold lexis_Join.f at h
  split at h
  · rename_i hs
    injection h with h
    have := join_tells A0 c0 l0 w hr0 hc0 hs.1 (fun k hk => by
      have h2 := List.all_eq_true.1 hs.2 (l0[k]) (List.getElem_mem hk)
      unfold rd_T37
      simp only [Int.toNat_natCast, List.getD_eq_getElem?_getD, List.getElem?_eq_getElem hk, Option.getD_some]
      exact of_decide_eq_true h2)
    rw [h] at this
    exact this
  · cases h
end Go.Proofs.YthklnopfgoekeaaGreatDoor.X
