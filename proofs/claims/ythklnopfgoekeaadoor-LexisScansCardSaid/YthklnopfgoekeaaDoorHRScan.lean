import Derived.Test.YthklnopfgoekeaaDoorHOne
namespace Go.Proofs.YthklnopfgoekeaaDoor.X
open Go.RowKit Go.Proofs.YthklnopfgoekeaaDoorW.PrintWords Go.Proofs.YthklnopfgoekeaaDoorW.PrintLast Go.Proofs.YthklnopfgoekeaaDoorW.PrintMore
set_option linter.unusedVariables false

theorem lc_add (s : ByteArray) (x l c : Int) (a : Nat) : ∀ b : Nat, lc s x l c (a + b) = lc s (x + a) (lc s x l c a).1 (lc s x l c a).2 b
  | 0 => rfl
  | b + 1 => by
    rw [← Nat.add_assoc, lc, lc, lc_add s x l c a b]
    rw [show x + ((a + b : Nat) : Int) = x + (a : Int) + (b : Int) from by omega]
/-- Line and column of place x. -/
def lcAt (s : ByteArray) (x : Nat) : Int × Int := lc s 0 1 1 x
theorem lcAt_add (s : ByteArray) (x n : Nat) : lc s x (lcAt s x).1 (lcAt s x).2 n = lcAt s (x + n) := by
  unfold lcAt
  rw [lc_add s 0 1 1 x n, Int.zero_add]
theorem lcAt_nb {s : ByteArray} (hs : s.size ≤ 1048576) {x : Nat} (hx : x ≤ s.size) : Nb s x (lcAt s x).1 (lcAt s x).2 := by
  have h : Nb s 0 1 1 := ⟨hs, by omega, by omega, by omega, by omega, by omega, by omega⟩
  have := lc_bounds h x (by omega)
  rw [Int.zero_add] at this
  exact this
theorem lcAt_nl {s : ByteArray} {y : Nat} (h : (bt s y == 10) = true) : lcAt s (y + 1) = ((lcAt s y).1 + 1, 1) := by
  unfold lcAt
  exact lc_nl (by rw [Int.zero_add]; exact h)
theorem lcAt_no {s : ByteArray} {y : Nat} (h : (bt s y == 10) = false) : lcAt s (y + 1) = ((lcAt s y).1, (lcAt s y).2 + 1) := by
  unfold lcAt
  exact lc_no (by rw [Int.zero_add]; exact h)
theorem scanGo_next {s : ByteArray} {d x : Nat} {ts : List S38} (hx : x < s.size) (he : (readOne s x).err = 0) : scanGo s (d + 1) x (lcAt s x).1 (lcAt s x).2 ts = scanGo s d (x + (readOne s x).n) (lcAt s (x + (readOne s x).n)).1 (lcAt s (x + (readOne s x).n)).2 ((readOne s x).ts (lcAt s x).1 (lcAt s x).2 ts) := by
  rw [scanGo_more hx he, lcAt_add]
theorem blank_calls (s : ByteArray) (i : Int) (w : World) : Calls Tryd.prog 22 #[.int .u8 (bt s i)] w fun e w' => e = .returned (.bool (classI (bt s i) == 1)) ∧ Below w.heap.size w w' := (tribunalref06_Blank.calls _ _ w (Blank_f s i)).mono fun _ _ h => ⟨h.1, h.2.below⟩
set_option maxHeartbeats 8000000 in
set_option maxRecDepth 100000 in
theorem rscan_short (s : ByteArray) (hs : s.size ≤ 1048576) (r1 : List S38) (r2 r3 r4 : Int) (w : World) (h : scanGo s (s.size + 1) 0 1 1 [] = (r1, r2, r3, r4)) :
    Calls Tryd.prog 16 #[.string s] w fun e w' => ∃ v0_ : Value, e = .returned (.tuple #[v0_, .int .i64 r2, .int .i64 r3, .int .i64 r4]) ∧ Kd.R k38 38 w' w.heap.size (fun _ => True) v0_ r1 ∧ Below w.heap.size w w' := by
  have hg : decide (1048576 < (s.size : Int)) = false := decide_eq_false (by omega)
  have hg2 : decide (1048576 < s.size) = false := decide_eq_false (by omega)
  have HR0 := Aside0.mk h
  clear h
  go_enter Tryd.func16, Tryd.ntmps16
  go_wp2
  clear hg hg2
  go_loopg [6, 7, 8, 9, 10] (s.size + 1) (fun kq v6 v7 v8 v9 v10 wr => ∃ (x y : Nat) (l c : Int) (ts : List S38), x ≤ s.size ∧ y ≤ x ∧ v7 = .int .i64 l ∧ v8 = .int .i64 c ∧ v9 = .int .i64 y ∧ v10 = .int .i64 x ∧ Aside0 (lcAt s y = (l, c)) ∧ Aside0 (scanGo s kq x (lcAt s x).1 (lcAt s x).2 ts = (r1, r2, r3, r4)) ∧ Aside0 (s.size - x < kq) ∧ Aside0 (ts.length ≤ x) ∧ Aside0 (Kd.R k38 38 wr w.heap.size (fun _ => True) v6 ts) ∧ Aside0 (Below w.heap.size w wr))
  case atStart => exact ⟨0, 0, 1, 1, [], by omega, by omega, rfl, rfl, rfl, rfl, ⟨rfl⟩, HR0, ⟨by omega⟩, ⟨by simp⟩, ⟨Kd.R_nil _ _ _ _ _⟩, ⟨Below.refl _ _⟩⟩
  case round =>
    clear HR0
    obtain ⟨x, y, l, c, ts, hx, hy, rfl, rfl, rfl, rfl, HLC, HG, HK, HT, HR, HB⟩ := hrel
    by_cases hlt : x < s.size
    · have HX := Aside0.mk (bt_nat s x hlt)
      obtain ⟨k1, rfl⟩ : ∃ k1, gk = k1 + 1 := ⟨gk - 1, by have := HK.out; omega⟩
      have HGO := Aside0.mk (readOne_goes s x hlt)
      cases hcl1 : (classI (bt s x) == 1) with
      | true =>
        have hro : readOne s x = blanksR s x := one_1 (by simpa using hcl1)
        have HG2 := Aside0.mk (scanGo_next hlt (d := k1) (ts := ts) (by rw [hro]; rfl))
        rw [hro] at HG2
        have HC1 := Aside0.mk hcl1
        clear hcl1 hro
        go_wp2_with fail
        rw [HX.out]
        refine (blank_calls s x _).mono ?_
        rintro e w1 ⟨rfl, hb1⟩
        rw [HC1.out]
        have HB1 := Aside0.mk (below_then HB.out HB.out.size hb1)
        have HR1 := Aside0.mk (Kd.R_below HR.out hb1)
        clear hb1
        go_wp2
        go_roundg k1
        case measure => have := HK.out; omega
        case rel => exact ⟨x + 1, y, l, c, ts, by omega, by omega, rfl, rfl, rfl, by go_num, HLC, ⟨by rw [← HG.out]; exact HG2.out.symm⟩, ⟨by have := HK.out; omega⟩, ⟨by have := HT.out; omega⟩, HR1, HB1⟩
      | false =>
        have HC1 := Aside0.mk hcl1
        clear hcl1
        cases h59 : (bt s x == 59) with
        | true =>
          have hcl2 : classI (bt s x) = 2 := by rw [beq_iff_eq.1 h59]; decide
          have hro : readOne s x = commentsR s x := one_2 hcl2
          have HG2 := Aside0.mk (scanGo_next hlt (d := k1) (ts := ts) (by rw [hro]; rfl))
          rw [hro] at HG2
          have hix := index_str s (x : Int) x rfl hlt
          clear hcl2 hro
          go_wp2_with fail
          refine (blank_calls s x _).mono ?_
          rintro e w1 ⟨rfl, hb1⟩
          rw [HC1.out]
          have HB1 := Aside0.mk (below_then HB.out HB.out.size hb1)
          have HR1 := Aside0.mk (Kd.R_below HR.out hb1)
          clear hb1
          go_wp2
          clear hix
          go_loop [10] (fun v10 => ∃ k : Nat, x + k ≤ s.size ∧ v10 = .int .i64 ((x : Int) + (k : Int)) ∧ Aside0 (∀ j, j < k → notNlB (bt s ((x : Int) + (j : Nat))) = true)) (fun v10 => s.size - (intOf v10).toNat)
          case atStart => exact ⟨0, by omega, by go_num, ⟨fun j hj => by omega⟩⟩
          case round =>
            obtain ⟨k, hk, rfl, HP⟩ := hrel
            have hfin : (x + k = s.size ∨ notNlB (bt s ((x : Int) + k)) = false) → Aside0 (scanGo s k1 (x + k) (lcAt s (x + k)).1 (lcAt s (x + k)).2 ts = (r1, r2, r3, r4) ∧ 1 ≤ k) := by
              intro hh
              have e : runN notNlB s x = k := runN_eq hk HP.out hh
              have h1 := HG2.out
              unfold commentsR at h1
              simp only [e] at h1
              refine ⟨by rw [← HG.out]; exact h1.symm, ?_⟩
              rw [← e]
              exact runK_pos (by rw [beq_iff_eq.1 h59]; decide) hlt
            by_cases hl2 : x + k < s.size
            · have hix := index_str s ((x : Int) + (k : Int)) (x + k) (by omega) hl2
              cases h10 : (bt s ((x : Int) + (k : Int)) != 10) with
              | true =>
                have HP2 : Aside0 (∀ j, j < k + 1 → notNlB (bt s ((x : Int) + (j : Nat))) = true) := ⟨by
                  intro j hj
                  rcases Nat.lt_or_ge j k with h1 | h1
                  · exact HP.out j h1
                  · obtain rfl : j = k := by omega
                    unfold notNlB
                    exact h10⟩
                clear hfin
                go_wp2
                go_round
                case rel => exact ⟨k + 1, by omega, by go_num, HP2⟩
                case measure => simp [intOf]; omega
              | false =>
                have HF := hfin (.inr (by unfold notNlB; exact h10))
                clear hfin
                go_wp2
                go_roundg k1
                case measure => have := HK.out; omega
                case rel => exact ⟨x + k, y, l, c, ts, by omega, by omega, rfl, rfl, rfl, by go_num, HLC, ⟨HF.out.1⟩, ⟨by have := HK.out; have := HF.out.2; omega⟩, ⟨by have := HT.out; omega⟩, HR1, HB1⟩
            · have HF := hfin (.inl (by omega))
              clear hfin
              go_wp2
              go_roundg k1
              case measure => have := HK.out; omega
              case rel => exact ⟨x + k, y, l, c, ts, by omega, by omega, rfl, rfl, rfl, by go_num, HLC, ⟨HF.out.1⟩, ⟨by have := HK.out; have := HF.out.2; omega⟩, ⟨by have := HT.out; omega⟩, HR1, HB1⟩
        | false =>
          obtain ⟨t1, t2, t3, t4, t5, nx, hev, htold⟩ := one_told hs hlt (by simpa using HC1.out) (fun h => by
            have := class2 h
            rw [this] at h59
            cases h59)
          obtain ⟨kq, hone⟩ := hev.rounds
          have HO := Aside0.mk hone
          have HTO := Aside0.mk htold
          clear hev htold hone
          have hix := index_str s (x : Int) x rfl hlt
          go_wp2_with fail
          refine (blank_calls s x _).mono ?_
          rintro e w1 ⟨rfl, hb1⟩
          rw [HC1.out]
          have HB1 := Aside0.mk (below_then HB.out HB.out.size hb1)
          have HR1 := Aside0.mk (Kd.R_below HR.out hb1)
          clear hb1
          go_wp2
          clear hix
          go_loop [7, 8, 9] (fun v7 v8 v9 => ∃ (y : Nat) (l c : Int), y ≤ x ∧ v7 = .int .i64 l ∧ v8 = .int .i64 c ∧ v9 = .int .i64 y ∧ Aside0 (lcAt s y = (l, c))) (fun v7 v8 v9 => x - (intOf v9).toNat)
          case atStart => exact ⟨y, l, c, hy, rfl, rfl, rfl, HLC⟩
          case round =>
            clear HLC hy
            obtain ⟨y, l, c, hy, rfl, rfl, rfl, HLC⟩ := hrel
            have hnb := lcAt_nb hs (x := y) (by omega)
            rw [HLC.out] at hnb
            obtain ⟨a1, a2, a3, a4, a5, a6, a7⟩ := hnb
            simp only at a4 a5 a6 a7
            by_cases hyx : y < x
            · have hix := index_str s (y : Int) y rfl (by omega)
              cases h10 : (bt s y == 10) with
              | true =>
                have HL2 := Aside0.mk (lcAt_nl h10)
                rw [HLC.out] at HL2
                go_wp2
                go_round
                case rel => exact ⟨y + 1, l + 1, 1, by omega, rfl, rfl, by go_num, HL2⟩
                case measure => simp [intOf]; omega
              | false =>
                have HL2 := Aside0.mk (lcAt_no h10)
                rw [HLC.out] at HL2
                go_wp2
                go_round
                case rel => exact ⟨y + 1, l, c + 1, by omega, rfl, rfl, by go_num, HL2⟩
                case measure => simp [intOf]; omega
            · obtain rfl : y = x := by omega
              by_cases he : (readOne s y).err = 0
              · obtain ⟨htok, hnx⟩ := HTO.out he
                have hge : ((readOne s y).err != 0) = false := by rw [he]; rfl
                have hgp := HGO.out.pos he
                have HG2 := Aside0.mk (scanGo_next hlt (d := k1) (ts := ts) he)
                have hts : (readOne s y).ts (lcAt s y).1 (lcAt s y).2 ts = ts ++ [⟨t1, t2, t3, l, c⟩] := by unfold Rd.ts; rw [htok, HLC.out]
                rw [hts] at HG2
                have hlen : (ts.length + 1) * 48 ≤ 140737488355328 := by have := HT.out; omega
                subst hnx
                clear htok hts he
                generalize readOne s y = rr at *
                go_wp2_with (first | (go_at_call 33; refine (tribunalref06_one.calls kq s y t1 t2 t3 t4 t5 _ rr.err w1 HO.out).mono ?_; rintro e w2 ⟨rfl, hb2⟩; have HB2 := Aside0.mk (below_then HB1.out HB1.out.size hb2); have HR2 := Aside0.mk (Kd.R_below HR1.out hb2); clear hb2) | (at_builtin; refine Kd.R_append k38 (w0 := w2) (W := w2.alloc (.cells #[.int .i64 t1, .string t2, .bool t3, .int .i64 l, .int .i64 c] 38)) w.heap.size rfl (.tmp 72) (.tmp 74) 22 38 _ 48 rfl Tryd.underlying22 info38 rfl (by decide) (by decide) _ ts ⟨t1, t2, t3, l, c⟩ [.int .i64 t1, .string t2, .bool t3, .int .i64 l, .int .i64 c] (fun _ => True) (fun _ => False) rfl (by simp [Act.eval]) (k38_mkM _ _ _ _) (fun _ h => h.elim) (fun _ _ => trivial) (Kd.R_alloc HR2.out _) ((Below.refl _ _).alloc HB2.out.size _) (Nat.le_trans HB2.out.size (by simp)) hlen ?_; intro v1 w3 hR3 hb3 hg3 hat3; have HR3 := Aside0.mk hR3; have HB3 := Aside0.mk (HB2.out.trans hb3); clear hR3 hb3 hg3 hat3))
                go_roundg k1
                case measure => have := HK.out; omega
                case rel => exact ⟨y + rr.n, y, l, c, ts ++ [⟨t1, t2, t3, l, c⟩], by omega, by omega, rfl, rfl, rfl, by go_num, HLC, ⟨by rw [← HG.out]; exact HG2.out.symm⟩, ⟨by have := HK.out; omega⟩, ⟨by rw [List.length_append]; have := HT.out; simp; omega⟩, HR3, HB3⟩
              · have hge : ((readOne s y).err != 0) = true := by rw [bne_iff_ne]; exact he
                have hgE := scanGo_bad HK.out hlt (l := (lcAt s y).1) (c := (lcAt s y).2) (ts := ts) he
                rw [HG.out, HLC.out] at hgE
                have HQ := Aside0.mk hgE
                clear hgE he
                generalize readOne s y = rr at *
                go_wp2_with (go_at_call 33; refine (tribunalref06_one.calls kq s y t1 t2 t3 t4 t5 nx rr.err w1 HO.out).mono ?_; rintro e w2 ⟨rfl, hb2⟩; have HB2 := Aside0.mk (below_then HB1.out HB1.out.size hb2); have HR2 := Aside0.mk (Kd.R_below HR1.out hb2); clear hb2)
                refine bodyPost_ret (results_list (rs := [.tmp 2, .tmp 3, .tmp 4, .tmp 5]) rfl (by simp) (.tmp (.tmp (.tmp (.tmp .nil))))) rfl ?_
                have hgE := HQ.out
                injection hgE with e1 hgE
                injection hgE with e2 hgE
                injection hgE with e3 e4
                subst e1 e2 e3 e4
                exact ⟨_, rfl, Kd.R_nil _ _ _ _ _, HB2.out.alloc HB2.out.size _⟩
    · have hgE := scanGo_end HK.out hlt (l := (lcAt s x).1) (c := (lcAt s x).2) (ts := ts)
      rw [HG.out] at hgE
      have HQ := Aside0.mk hgE
      clear hgE
      go_wp2
      refine bodyPost_ret (results_list (rs := [.tmp 2, .tmp 3, .tmp 4, .tmp 5]) rfl (by simp) (.tmp (.tmp (.tmp (.tmp .nil))))) rfl ?_
      have hgE := HQ.out
      injection hgE with e1 hgE
      injection hgE with e2 hgE
      injection hgE with e3 e4
      subst e1 e2 e3 e4
      exact ⟨_, rfl, HR.out, HB.out⟩
set_option maxHeartbeats 8000000 in
set_option maxRecDepth 100000 in
theorem rscan_long (s : ByteArray) (hs : s.size > 1048576) (w : World) :
    Calls Tryd.prog 16 #[.string s] w fun e w' => e = .returned (.tuple #[.slice none 0 0, .int .i64 0, .int .i64 0, .int .i64 2]) ∧ w' = w := by
  have hg : decide (1048576 < (s.size : Int)) = true := decide_eq_true (by omega)
  have hg2 : decide (1048576 < s.size) = true := decide_eq_true (by omega)
  go_enter Tryd.func16, Tryd.ntmps16
  go_wp2
  refine bodyPost_ret (results_list (rs := [.tmp 2, .tmp 3, .tmp 4, .tmp 5]) rfl (by simp) (.tmp (.tmp (.tmp (.tmp .nil))))) rfl ?_
  exact ⟨rfl, rfl⟩
/-- The reference's Scan answers what the program's does. -/
def tribunalref06_Scan.f (a0 : ByteArray) : Option ((List (S38)) × Int × Int × Int) := some (scanAll a0)
theorem tribunalref06_Scan.calls (a0 : ByteArray) (r1 : List (S38)) (r2 : Int) (r3 : Int) (r4 : Int) (w : World) (h : tribunalref06_Scan.f a0 = some (r1, r2, r3, r4)) :
    Calls Tryd.prog 16 #[.string a0] w fun e w' => ∃ v0_ : Value, e = .returned (.tuple #[v0_, .int .i64 r2, .int .i64 r3, .int .i64 r4]) ∧ Kd.R k38 38 w' w.heap.size (fun _ => True) v0_ r1 ∧ Below w.heap.size w w' := by
  unfold tribunalref06_Scan.f scanAll at h
  injection h with h
  by_cases hs : a0.size > 1048576
  · rw [if_pos hs] at h
    injection h with e1 h
    injection h with e2 h
    injection h with e3 e4
    subst e1 e2 e3 e4
    refine (rscan_long a0 hs w).mono ?_
    rintro e w' ⟨rfl, rfl⟩
    exact ⟨_, rfl, Kd.R_nil _ _ _ _ _, Below.refl _ _⟩
  · rw [if_neg hs] at h
    exact rscan_short a0 (by omega) r1 r2 r3 r4 w h
end Go.Proofs.YthklnopfgoekeaaDoor.X
