import Derived.Test.YthklnopfgoekeaaGreatDoorHHash
namespace Go.Proofs.YthklnopfgoekeaaGreatDoor.X
open Go.RowKit Go.Proofs.YthklnopfgoekeaaGreatDoorW.PrintWords Go.Proofs.YthklnopfgoekeaaGreatDoorW.PrintLast Go.Proofs.YthklnopfgoekeaaGreatDoorW.PrintMore
set_option linter.unusedVariables false

/-- One piece at place x. -/
def readOne (s : ByteArray) (x : Nat) : Rd :=
  if classI (bt s x) = 1 then blanksR s x else if classI (bt s x) = 2 then commentsR s x else if classI (bt s x) = 3 then bracketsR s x
  else if classI (bt s x) = 4 then numeralsR s x else if classI (bt s x) = 5 then hashesR s x else if classI (bt s x) = 6 then quotesR s x
  else if classI (bt s x) = 7 then barsR s x else if classI (bt s x) = 8 then colonsR s x else if classI (bt s x) = 9 then wordsR s x else ⟨60, none, 0⟩
def scanGo (s : ByteArray) : Nat → Nat → Int → Int → List S37 → List S37 × Int × Int × Int
  | 0, _, _, _, _ => ([], 0, 0, 0)
  | d + 1, x, l, c, ts =>
    if x < s.size then
      if (readOne s x).err = 0 then scanGo s d (x + (readOne s x).n) (lc s x l c (readOne s x).n).1 (lc s x l c (readOne s x).n).2 ((readOne s x).ts l c ts)
      else ([], l, c, (readOne s x).err)
    else (ts, 0, 0, 0)
/-- What Scan answers. -/
def scanAll (s : ByteArray) : List S37 × Int × Int × Int := if s.size > 1048576 then ([], 0, 0, 2) else scanGo s (s.size + 1) 0 1 1 []
def lexis_Scan.f (a0 : ByteArray) : Option ((List (S37)) × Int × Int × Int) := some (scanAll a0)

theorem class_cases (c : Int) : classI c = 0 ∨ classI c = 1 ∨ classI c = 2 ∨ classI c = 3 ∨ classI c = 4 ∨ classI c = 5 ∨ classI c = 6 ∨ classI c = 7 ∨ classI c = 8 ∨ classI c = 9 := by
  have h : 0 ≤ classI c ∧ classI c ≤ 9 := by
    unfold classI
    repeat' split
    all_goals omega
  omega
theorem runK_pos {p : Int → Bool} {s : ByteArray} {x : Nat} (h : p (bt s x) = true) (hx : x < s.size) : 1 ≤ runN p s x := by
  unfold runN
  obtain ⟨d, hd⟩ : ∃ d, s.size - x = d + 1 := ⟨s.size - x - 1, by omega⟩
  rw [hd, runK, if_pos h]
  omega
/-- A reader that goes on goes on by a byte at least, and stays in the text. -/
structure Goes (s : ByteArray) (x : Nat) (r : Rd) : Prop where
  pos : r.err = 0 → 1 ≤ r.n ∧ x + r.n ≤ s.size
  bad : r.err ≠ 0 → r = ⟨r.err, none, 0⟩
theorem goes_bare {s : ByteArray} {x : Nat} {k : Int} {tx : ByteArray} {q : Bool} {n : Nat} {ok : Bool} (h : ok = true → 1 ≤ n ∧ x + n ≤ s.size) : Goes s x (bareR s x k tx q n ok) := by
  unfold bareR
  split
  · rename_i hh
    exact ⟨fun _ => h (by simp at hh; exact hh.1), fun h => absurd rfl h⟩
  · exact ⟨fun h => by simp at h, fun _ => rfl⟩
theorem class4 {c : Int} (h : classI c = 4) : digitB c = true := by
  unfold classI at h
  by_cases h9 : c = 9
  · rw [if_pos h9] at h; omega
  rw [if_neg h9] at h
  by_cases h10 : c = 10
  · rw [if_pos h10] at h; omega
  rw [if_neg h10] at h
  by_cases h13 : c = 13
  · rw [if_pos h13] at h; omega
  rw [if_neg h13] at h
  by_cases h32 : c = 32
  · rw [if_pos h32] at h; omega
  rw [if_neg h32] at h
  by_cases h59 : c = 59
  · rw [if_pos h59] at h; omega
  rw [if_neg h59] at h
  by_cases h40 : c = 40
  · rw [if_pos h40] at h; omega
  rw [if_neg h40] at h
  by_cases h41 : c = 41
  · rw [if_pos h41] at h; omega
  rw [if_neg h41] at h
  by_cases h35 : c = 35
  · rw [if_pos h35] at h; omega
  rw [if_neg h35] at h
  by_cases h34 : c = 34
  · rw [if_pos h34] at h; omega
  rw [if_neg h34] at h
  by_cases h124 : c = 124
  · rw [if_pos h124] at h; omega
  rw [if_neg h124] at h
  by_cases h58 : c = 58
  · rw [if_pos h58] at h; omega
  rw [if_neg h58] at h
  by_cases hd : digitB c = true
  · exact hd
  rw [if_neg hd] at h
  by_cases he : simpleB c = true
  · rw [if_pos he] at h; omega
  · rw [if_neg he] at h; omega
theorem class9 {c : Int} (h : classI c = 9) : simpleB c = true := by
  unfold classI at h
  by_cases h9 : c = 9
  · rw [if_pos h9] at h; omega
  rw [if_neg h9] at h
  by_cases h10 : c = 10
  · rw [if_pos h10] at h; omega
  rw [if_neg h10] at h
  by_cases h13 : c = 13
  · rw [if_pos h13] at h; omega
  rw [if_neg h13] at h
  by_cases h32 : c = 32
  · rw [if_pos h32] at h; omega
  rw [if_neg h32] at h
  by_cases h59 : c = 59
  · rw [if_pos h59] at h; omega
  rw [if_neg h59] at h
  by_cases h40 : c = 40
  · rw [if_pos h40] at h; omega
  rw [if_neg h40] at h
  by_cases h41 : c = 41
  · rw [if_pos h41] at h; omega
  rw [if_neg h41] at h
  by_cases h35 : c = 35
  · rw [if_pos h35] at h; omega
  rw [if_neg h35] at h
  by_cases h34 : c = 34
  · rw [if_pos h34] at h; omega
  rw [if_neg h34] at h
  by_cases h124 : c = 124
  · rw [if_pos h124] at h; omega
  rw [if_neg h124] at h
  by_cases h58 : c = 58
  · rw [if_pos h58] at h; omega
  rw [if_neg h58] at h
  by_cases hd : digitB c = true
  · rw [if_pos hd] at h; omega
  rw [if_neg hd] at h
  by_cases he : simpleB c = true
  · exact he
  · rw [if_neg he] at h; omega
theorem class2 {c : Int} (h : classI c = 2) : c = 59 := by
  unfold classI at h
  repeat' split at h
  all_goals first | assumption | omega
theorem quoteGo_place (s : ByteArray) : ∀ (d i : Nat) (acc l : List UInt8) (j : Nat), quoteGo s d i acc = some (l, j) → i < j ∧ j ≤ s.size
  | 0, i, acc, l, j, h => by simp [quoteGo] at h
  | d + 1, i, acc, l, j, h => by
    rw [quoteGo] at h
    split at h
    · rename_i h1
      split at h
      · have := quoteGo_place s d _ _ l j h
        omega
      · injection h with h
        injection h with _ h
        omega
    · cases h
theorem readOne_goes (s : ByteArray) (x : Nat) (hx : x < s.size) : Goes s x (readOne s x) := by
  unfold readOne
  split
  · exact ⟨fun _ => ⟨by simp [blanksR], by simp [blanksR]; omega⟩, fun h => absurd rfl h⟩
  split
  · rename_i h
    refine ⟨fun _ => ⟨?_, runN_le notNlB s x (by omega)⟩, fun h => absurd rfl h⟩
    exact runK_pos (by rw [class2 h]; decide) hx
  split
  · unfold bracketsR
    split
    · exact ⟨fun _ => ⟨by simp, by simp; omega⟩, fun h => absurd rfl h⟩
    · exact ⟨fun _ => ⟨by simp, by simp; omega⟩, fun h => absurd rfl h⟩
  split
  · rename_i h
    have h1 := runK_pos (class4 h) hx
    have h2 := runN_le digitB s x (by omega)
    unfold numeralsR numR
    split
    · rename_i h3
      have h4 := runN_le digitB s (x + runN digitB s x + 1) (by omega)
      exact goes_bare (fun _ => ⟨by omega, by omega⟩)
    · exact goes_bare (fun _ => ⟨by omega, by omega⟩)
  split
  · unfold hashesR hashK
    split
    · split
      · have h4 := runN_le hexB s (x + 2) (by omega)
        exact goes_bare (fun _ => ⟨by omega, by omega⟩)
      · split
        · have h4 := runN_le binB s (x + 2) (by omega)
          exact goes_bare (fun _ => ⟨by omega, by omega⟩)
        · exact ⟨fun h => by simp at h, fun _ => rfl⟩
    · exact ⟨fun h => by simp at h, fun _ => rfl⟩
  split
  · unfold quotesR
    split
    · exact ⟨fun h => by simp at h, fun _ => rfl⟩
    · rename_i h
      have := quoteGo_place s _ _ _ _ _ h
      exact ⟨fun _ => ⟨by simp only; omega, by simp only; omega⟩, fun h => absurd rfl h⟩
  split
  · unfold barsR
    split
    · rename_i h
      exact ⟨fun _ => ⟨by simp, by simp only; omega⟩, fun h => absurd rfl h⟩
    · exact ⟨fun h => by simp at h, fun _ => rfl⟩
  split
  · have h4 := runN_le simpleB s (x + 1) (by omega)
    unfold colonsR
    exact goes_bare (fun _ => ⟨by omega, by omega⟩)
  split
  · rename_i h
    have h1 := runK_pos (class9 h) hx
    have h2 := runN_le simpleB s x (by omega)
    unfold wordsR
    exact goes_bare (fun _ => ⟨by omega, by omega⟩)
  · exact ⟨fun h => by simp at h, fun _ => rfl⟩
theorem ts_length (r : Rd) (l c : Int) (ts : List S37) : (r.ts l c ts).length ≤ ts.length + 1 := by
  unfold Rd.ts
  split <;> simp
theorem one_1 {s : ByteArray} {x : Nat} (h : classI (bt s x) = 1) : readOne s x = blanksR s x := by
  unfold readOne
  rw [h]
  rfl
theorem one_2 {s : ByteArray} {x : Nat} (h : classI (bt s x) = 2) : readOne s x = commentsR s x := by
  unfold readOne
  rw [h]
  rfl
theorem one_3 {s : ByteArray} {x : Nat} (h : classI (bt s x) = 3) : readOne s x = bracketsR s x := by
  unfold readOne
  rw [h]
  rfl
theorem one_4 {s : ByteArray} {x : Nat} (h : classI (bt s x) = 4) : readOne s x = numeralsR s x := by
  unfold readOne
  rw [h]
  rfl
theorem one_5 {s : ByteArray} {x : Nat} (h : classI (bt s x) = 5) : readOne s x = hashesR s x := by
  unfold readOne
  rw [h]
  rfl
theorem one_6 {s : ByteArray} {x : Nat} (h : classI (bt s x) = 6) : readOne s x = quotesR s x := by
  unfold readOne
  rw [h]
  rfl
theorem one_7 {s : ByteArray} {x : Nat} (h : classI (bt s x) = 7) : readOne s x = barsR s x := by
  unfold readOne
  rw [h]
  rfl
theorem one_8 {s : ByteArray} {x : Nat} (h : classI (bt s x) = 8) : readOne s x = colonsR s x := by
  unfold readOne
  rw [h]
  rfl
theorem one_9 {s : ByteArray} {x : Nat} (h : classI (bt s x) = 9) : readOne s x = wordsR s x := by
  unfold readOne
  rw [h]
  rfl
theorem one_0 {s : ByteArray} {x : Nat} (h : classI (bt s x) = 0) : readOne s x = ⟨60, none, 0⟩ := by
  unfold readOne
  rw [h]
  rfl
theorem scanGo_more {s : ByteArray} {d x : Nat} {l c : Int} {ts : List S37} (hx : x < s.size) (he : (readOne s x).err = 0) : scanGo s (d + 1) x l c ts = scanGo s d (x + (readOne s x).n) (lc s x l c (readOne s x).n).1 (lc s x l c (readOne s x).n).2 ((readOne s x).ts l c ts) := by
  rw [scanGo, if_pos hx, if_pos he]
theorem scanGo_bad {s : ByteArray} {d x : Nat} {l c : Int} {ts : List S37} (hd : s.size - x < d) (hx : x < s.size) (he : (readOne s x).err ≠ 0) : scanGo s d x l c ts = ([], l, c, (readOne s x).err) := by
  obtain ⟨d', rfl⟩ : ∃ d', d = d' + 1 := ⟨d - 1, by omega⟩
  rw [scanGo, if_pos hx, if_neg he]
theorem scanGo_end {s : ByteArray} {d x : Nat} {l c : Int} {ts : List S37} (hd : s.size - x < d) (hx : ¬ x < s.size) : scanGo s d x l c ts = (ts, 0, 0, 0) := by
  obtain ⟨d', rfl⟩ : ∃ d', d = d' + 1 := ⟨d - 1, by omega⟩
  rw [scanGo, if_neg hx]
set_option maxHeartbeats 8000000 in
set_option maxRecDepth 100000 in
theorem scan_long (s : ByteArray) (hs : s.size > 1048576) (w : World) :
    Calls Tryz.prog 34 #[.string s] w fun e w' => e = .returned (.tuple #[.slice none 0 0, .int .i64 0, .int .i64 0, .int .i64 2]) ∧ w' = w := by
  have hg : decide (1048576 < (s.size : Int)) = true := decide_eq_true (by omega)
  have hg2 : decide (1048576 < s.size) = true := decide_eq_true (by omega)
  go_enter Tryz.func34, Tryz.ntmps34
  go_wp2
  refine bodyPost_ret (results_list (rs := [.tmp 2, .tmp 3, .tmp 4, .tmp 5]) rfl (by simp) (.tmp (.tmp (.tmp (.tmp .nil))))) rfl ?_
  exact ⟨rfl, rfl⟩
set_option maxHeartbeats 16000000 in
set_option maxRecDepth 100000 in
theorem scan_short (s : ByteArray) (hs : s.size ≤ 1048576) (r1 : List S37) (r2 r3 r4 : Int) (w : World) (h : scanGo s (s.size + 1) 0 1 1 [] = (r1, r2, r3, r4)) :
    Calls Tryz.prog 34 #[.string s] w fun e w' => ∃ v0_ : Value, e = .returned (.tuple #[v0_, .int .i64 r2, .int .i64 r3, .int .i64 r4]) ∧ Kd.R k37 37 w' w.heap.size (fun _ => True) v0_ r1 ∧ Below w.heap.size w w' := by
  have hg : decide (1048576 < (s.size : Int)) = false := decide_eq_false (by omega)
  have hg2 : decide (1048576 < s.size) = false := decide_eq_false (by omega)
  have HR0 := Aside0.mk h
  clear h
  go_enter Tryz.func34, Tryz.ntmps34
  go_wp2_with (go_at_call 50; refine (readers_calls _).mono ?_; rintro e w' ⟨rfl, rfl⟩)
  generalize hW : World.alloc (World.alloc w _) _ = W0
  have HS0 : Aside0 (Sc (w.heap.size + 2) w.heap.size s 0 1 1 [] W0) := ⟨by rw [← hW]; exact ⟨by omega, by simp, _, ⟨blk_alloc (blk_new w _) _⟩, Kd.R_nil _ _ _ _ _⟩⟩
  have HM0 : Aside0 (W0.heap[w.heap.size + 1]? = some (.map tab9 9)) := ⟨by rw [← hW]; have := blk_new (w.alloc (.cells #[.string s, .int .i64 0, .int .i64 1, .int .i64 1, .slice none 0 0] 94)) (.map tab9 9); simpa using this⟩
  have HB0 : Aside0 (Below w.heap.size w W0) := ⟨by rw [← hW]; exact ((Below.refl _ _).alloc (Nat.le_refl _) _).alloc (by simp) _⟩
  have HN0 : Aside0 (Nb s 0 1 1) := ⟨⟨hs, by omega, by omega, by omega, by omega, by omega, by omega⟩⟩
  clear hW hg hg2
  go_loopg [10] (s.size + 1) (fun kq v10 wr => ∃ (x : Nat) (l c : Int) (ts : List S37), x ≤ s.size ∧ Aside0 (scanGo s kq x l c ts = (r1, r2, r3, r4)) ∧ Aside0 (s.size - x < kq) ∧ Aside0 (ts.length ≤ x) ∧ Aside0 (Nb s x l c) ∧ Aside0 (Sc (w.heap.size + 2) w.heap.size s x l c ts wr) ∧ Aside0 (wr.heap[w.heap.size + 1]? = some (.map tab9 9)) ∧ Aside0 (Below w.heap.size w wr))
  case atStart => exact ⟨0, 1, 1, [], by omega, HR0, ⟨by omega⟩, ⟨by simp⟩, HN0, HS0, HM0, HB0⟩
  case round =>
    clear HS0 HM0 HB0 HN0 HR0
    obtain ⟨x, l, c, ts, hx, HG, HK, HT, HN, HS, HM, HB⟩ := hrel
    obtain ⟨h1, h2, v, hC, hR⟩ := HS.out
    have HC := Aside0.mk hC
    have HR := Aside0.mk hR
    have hc0 := hC.c0
    have hc1 := hC.c1
    have hc4 := hC.c4
    clear hC hR
    by_cases hlt : x < s.size
    · have HX := Aside0.mk (bt_nat s x hlt)
      obtain ⟨k1, rfl⟩ : ∃ k1, gk = k1 + 1 := ⟨gk - 1, by have := HK.out; omega⟩
      have hgo := readOne_goes s x hlt
      rcases class_cases (bt s x) with hcl | hcl | hcl | hcl | hcl | hcl | hcl | hcl | hcl | hcl
      · have HE := Aside0.mk (one_0 hcl)
        have HCL := Aside0.mk hcl
        clear hcl hgo
        go_wp2_with fail
        rw [HX.out]
        refine (class_calls _ _).mono ?_
        rintro e w1 ⟨rfl, hb1⟩
        rw [HCL.out]
        have hlk := look_zero w1 (w.heap.size + 1) (blk_below HM.out hb1)
        have hd2 := (HC.out.below hb1).c2
        have hd3 := (HC.out.below hb1).c3
        have HB1 : Aside0 (Below w.heap.size w w1) := ⟨below_then HB.out HB.out.size hb1⟩
        clear hb1
        have hgE := scanGo_bad HK.out hlt (l := l) (c := c) (ts := ts) (by rw [HE.out]; simp)
        rw [HG.out, HE.out] at hgE
        have HQ := Aside0.mk hgE
        clear hgE
        go_wp2
        go_quiet (fail)
        go_wp2
        refine bodyPost_ret (results_list (rs := [.tmp 2, .tmp 3, .tmp 4, .tmp 5]) rfl (by simp) (.tmp (.tmp (.tmp (.tmp .nil))))) rfl ?_
        have hgE := HQ.out
        injection hgE with e1 hgE
        injection hgE with e2 hgE
        injection hgE with e3 e4
        subst e1 e2 e3 e4
        exact ⟨_, rfl, Kd.R_nil _ _ _ _ _, pw_below_drewN HB1.out _⟩
      · have HE := Aside0.mk (one_1 hcl)
        have HCL := Aside0.mk hcl
        have HGO := Aside0.mk hgo
        clear hcl hgo
        go_wp2_with fail
        rw [HX.out]
        refine (class_calls _ _).mono ?_
        rintro e w1 ⟨rfl, hb1⟩
        rw [HCL.out]
        have hlk : (Instr.lookup 95 (.map (some (w.heap.size + 1))) (.int .i64 1) true).run Tryz.prog w1 = .ok (.tuple #[.func (.func 63) #[] #[], .bool true]) w1 := look_tab w1 (w.heap.size + 1) 0 (by omega) (blk_below HM.out hb1)
        have HB1 : Aside0 (Below w.heap.size w w1) := ⟨below_then HB.out HB.out.size hb1⟩
        have HS1 := Aside0.mk (HS.out.below hb1)
        have HM1 := Aside0.mk (blk_below HM.out hb1)
        clear hb1 hc0 hc1
        go_wp2_with fail
        refine (blanks_reads (w.heap.size + 2) w.heap.size s x l c ts w1 HS1.out HT.out HN.out hlt HCL.out).mono ?_
        rintro e w2 ⟨rfl, hA⟩
        rw [← HE.out] at hA ⊢
        have HA := Aside0.mk hA
        have HM2 := Aside0.mk ((hA.fr.block (w.heap.size + 1) (by omega) (by omega)).trans HM1.out)
        have HB2 : Aside0 (Below w.heap.size w w2) := ⟨HB1.out.trans (hA.fr.to_below (by omega) (Nat.le_refl _))⟩
        clear hA hlk
        by_cases he : (readOne s x).err = 0
        · have hge : ((readOne s x).err != 0) = false := by rw [he]; rfl
          have hgp := HGO.out.pos he
          have HG2 := Aside0.mk (scanGo_more hlt he (d := k1) (l := l) (c := c) (ts := ts))
          have HT2 : Aside0 (((readOne s x).ts l c ts).length ≤ x + (readOne s x).n) := ⟨by have := ts_length (readOne s x) l c ts; have := HT.out; omega⟩
          have HN2 : Aside0 (Nb s ((x + (readOne s x).n : Nat) : Int) (lc s x l c (readOne s x).n).1 (lc s x l c (readOne s x).n).2) := ⟨by have := lc_bounds HN.out (readOne s x).n (by omega); rw [← Int.natCast_add] at this; exact this⟩
          generalize readOne s x = rr at *
          clear he
          go_wp2
          go_roundg k1
          case measure => have := HK.out; omega
          case rel => exact ⟨x + rr.n, _, _, _, by omega, ⟨by rw [← HG2.out, HG.out]⟩, ⟨by have := HK.out; omega⟩, HT2, HN2, ⟨HA.out.sc⟩, HM2, HB2⟩
        · have hge : ((readOne s x).err != 0) = true := by rw [bne_iff_ne]; exact he
          have hgE := scanGo_bad HK.out hlt (l := l) (c := c) (ts := ts) he
          rw [HG.out] at hgE
          have HQ := Aside0.mk hgE
          have hbad := HGO.out.bad he
          have hsc := HA.out.sc
          rw [hbad] at hsc
          obtain ⟨_, _, v2, hC2, _⟩ := hsc
          have hd2 : w2.cell? ⟨w.heap.size, 2, none⟩ = some (.int .i64 l) := hC2.c2
          have hd3 : w2.cell? ⟨w.heap.size, 3, none⟩ = some (.int .i64 c) := hC2.c3
          clear hgE hbad hC2 he
          generalize (readOne s x).err = er at *
          go_wp2
          go_quiet (fail)
          go_wp2
          refine bodyPost_ret (results_list (rs := [.tmp 2, .tmp 3, .tmp 4, .tmp 5]) rfl (by simp) (.tmp (.tmp (.tmp (.tmp .nil))))) rfl ?_
          have hgE := HQ.out
          injection hgE with e1 hgE
          injection hgE with e2 hgE
          injection hgE with e3 e4
          subst e1 e2 e3 e4
          exact ⟨_, rfl, Kd.R_nil _ _ _ _ _, pw_below_drewN HB2.out _⟩
      · have HE := Aside0.mk (one_2 hcl)
        have HCL := Aside0.mk hcl
        have HGO := Aside0.mk hgo
        clear hcl hgo
        go_wp2_with fail
        rw [HX.out]
        refine (class_calls _ _).mono ?_
        rintro e w1 ⟨rfl, hb1⟩
        rw [HCL.out]
        have hlk : (Instr.lookup 95 (.map (some (w.heap.size + 1))) (.int .i64 2) true).run Tryz.prog w1 = .ok (.tuple #[.func (.func 64) #[] #[], .bool true]) w1 := look_tab w1 (w.heap.size + 1) 1 (by omega) (blk_below HM.out hb1)
        have HB1 : Aside0 (Below w.heap.size w w1) := ⟨below_then HB.out HB.out.size hb1⟩
        have HS1 := Aside0.mk (HS.out.below hb1)
        have HM1 := Aside0.mk (blk_below HM.out hb1)
        clear hb1 hc0 hc1
        go_wp2_with fail
        refine (comments_reads (w.heap.size + 2) w.heap.size s x l c ts w1 HS1.out HT.out HN.out hlt HCL.out).mono ?_
        rintro e w2 ⟨rfl, hA⟩
        rw [← HE.out] at hA ⊢
        have HA := Aside0.mk hA
        have HM2 := Aside0.mk ((hA.fr.block (w.heap.size + 1) (by omega) (by omega)).trans HM1.out)
        have HB2 : Aside0 (Below w.heap.size w w2) := ⟨HB1.out.trans (hA.fr.to_below (by omega) (Nat.le_refl _))⟩
        clear hA hlk
        by_cases he : (readOne s x).err = 0
        · have hge : ((readOne s x).err != 0) = false := by rw [he]; rfl
          have hgp := HGO.out.pos he
          have HG2 := Aside0.mk (scanGo_more hlt he (d := k1) (l := l) (c := c) (ts := ts))
          have HT2 : Aside0 (((readOne s x).ts l c ts).length ≤ x + (readOne s x).n) := ⟨by have := ts_length (readOne s x) l c ts; have := HT.out; omega⟩
          have HN2 : Aside0 (Nb s ((x + (readOne s x).n : Nat) : Int) (lc s x l c (readOne s x).n).1 (lc s x l c (readOne s x).n).2) := ⟨by have := lc_bounds HN.out (readOne s x).n (by omega); rw [← Int.natCast_add] at this; exact this⟩
          generalize readOne s x = rr at *
          clear he
          go_wp2
          go_roundg k1
          case measure => have := HK.out; omega
          case rel => exact ⟨x + rr.n, _, _, _, by omega, ⟨by rw [← HG2.out, HG.out]⟩, ⟨by have := HK.out; omega⟩, HT2, HN2, ⟨HA.out.sc⟩, HM2, HB2⟩
        · have hge : ((readOne s x).err != 0) = true := by rw [bne_iff_ne]; exact he
          have hgE := scanGo_bad HK.out hlt (l := l) (c := c) (ts := ts) he
          rw [HG.out] at hgE
          have HQ := Aside0.mk hgE
          have hbad := HGO.out.bad he
          have hsc := HA.out.sc
          rw [hbad] at hsc
          obtain ⟨_, _, v2, hC2, _⟩ := hsc
          have hd2 : w2.cell? ⟨w.heap.size, 2, none⟩ = some (.int .i64 l) := hC2.c2
          have hd3 : w2.cell? ⟨w.heap.size, 3, none⟩ = some (.int .i64 c) := hC2.c3
          clear hgE hbad hC2 he
          generalize (readOne s x).err = er at *
          go_wp2
          go_quiet (fail)
          go_wp2
          refine bodyPost_ret (results_list (rs := [.tmp 2, .tmp 3, .tmp 4, .tmp 5]) rfl (by simp) (.tmp (.tmp (.tmp (.tmp .nil))))) rfl ?_
          have hgE := HQ.out
          injection hgE with e1 hgE
          injection hgE with e2 hgE
          injection hgE with e3 e4
          subst e1 e2 e3 e4
          exact ⟨_, rfl, Kd.R_nil _ _ _ _ _, pw_below_drewN HB2.out _⟩
      · have HE := Aside0.mk (one_3 hcl)
        have HCL := Aside0.mk hcl
        have HGO := Aside0.mk hgo
        clear hcl hgo
        go_wp2_with fail
        rw [HX.out]
        refine (class_calls _ _).mono ?_
        rintro e w1 ⟨rfl, hb1⟩
        rw [HCL.out]
        have hlk : (Instr.lookup 95 (.map (some (w.heap.size + 1))) (.int .i64 3) true).run Tryz.prog w1 = .ok (.tuple #[.func (.func 65) #[] #[], .bool true]) w1 := look_tab w1 (w.heap.size + 1) 2 (by omega) (blk_below HM.out hb1)
        have HB1 : Aside0 (Below w.heap.size w w1) := ⟨below_then HB.out HB.out.size hb1⟩
        have HS1 := Aside0.mk (HS.out.below hb1)
        have HM1 := Aside0.mk (blk_below HM.out hb1)
        clear hb1 hc0 hc1
        go_wp2_with fail
        refine (brackets_reads (w.heap.size + 2) w.heap.size s x l c ts w1 HS1.out HT.out HN.out hlt HCL.out).mono ?_
        rintro e w2 ⟨rfl, hA⟩
        rw [← HE.out] at hA ⊢
        have HA := Aside0.mk hA
        have HM2 := Aside0.mk ((hA.fr.block (w.heap.size + 1) (by omega) (by omega)).trans HM1.out)
        have HB2 : Aside0 (Below w.heap.size w w2) := ⟨HB1.out.trans (hA.fr.to_below (by omega) (Nat.le_refl _))⟩
        clear hA hlk
        by_cases he : (readOne s x).err = 0
        · have hge : ((readOne s x).err != 0) = false := by rw [he]; rfl
          have hgp := HGO.out.pos he
          have HG2 := Aside0.mk (scanGo_more hlt he (d := k1) (l := l) (c := c) (ts := ts))
          have HT2 : Aside0 (((readOne s x).ts l c ts).length ≤ x + (readOne s x).n) := ⟨by have := ts_length (readOne s x) l c ts; have := HT.out; omega⟩
          have HN2 : Aside0 (Nb s ((x + (readOne s x).n : Nat) : Int) (lc s x l c (readOne s x).n).1 (lc s x l c (readOne s x).n).2) := ⟨by have := lc_bounds HN.out (readOne s x).n (by omega); rw [← Int.natCast_add] at this; exact this⟩
          generalize readOne s x = rr at *
          clear he
          go_wp2
          go_roundg k1
          case measure => have := HK.out; omega
          case rel => exact ⟨x + rr.n, _, _, _, by omega, ⟨by rw [← HG2.out, HG.out]⟩, ⟨by have := HK.out; omega⟩, HT2, HN2, ⟨HA.out.sc⟩, HM2, HB2⟩
        · have hge : ((readOne s x).err != 0) = true := by rw [bne_iff_ne]; exact he
          have hgE := scanGo_bad HK.out hlt (l := l) (c := c) (ts := ts) he
          rw [HG.out] at hgE
          have HQ := Aside0.mk hgE
          have hbad := HGO.out.bad he
          have hsc := HA.out.sc
          rw [hbad] at hsc
          obtain ⟨_, _, v2, hC2, _⟩ := hsc
          have hd2 : w2.cell? ⟨w.heap.size, 2, none⟩ = some (.int .i64 l) := hC2.c2
          have hd3 : w2.cell? ⟨w.heap.size, 3, none⟩ = some (.int .i64 c) := hC2.c3
          clear hgE hbad hC2 he
          generalize (readOne s x).err = er at *
          go_wp2
          go_quiet (fail)
          go_wp2
          refine bodyPost_ret (results_list (rs := [.tmp 2, .tmp 3, .tmp 4, .tmp 5]) rfl (by simp) (.tmp (.tmp (.tmp (.tmp .nil))))) rfl ?_
          have hgE := HQ.out
          injection hgE with e1 hgE
          injection hgE with e2 hgE
          injection hgE with e3 e4
          subst e1 e2 e3 e4
          exact ⟨_, rfl, Kd.R_nil _ _ _ _ _, pw_below_drewN HB2.out _⟩
      · have HE := Aside0.mk (one_4 hcl)
        have HCL := Aside0.mk hcl
        have HGO := Aside0.mk hgo
        clear hcl hgo
        go_wp2_with fail
        rw [HX.out]
        refine (class_calls _ _).mono ?_
        rintro e w1 ⟨rfl, hb1⟩
        rw [HCL.out]
        have hlk : (Instr.lookup 95 (.map (some (w.heap.size + 1))) (.int .i64 4) true).run Tryz.prog w1 = .ok (.tuple #[.func (.func 66) #[] #[], .bool true]) w1 := look_tab w1 (w.heap.size + 1) 3 (by omega) (blk_below HM.out hb1)
        have HB1 : Aside0 (Below w.heap.size w w1) := ⟨below_then HB.out HB.out.size hb1⟩
        have HS1 := Aside0.mk (HS.out.below hb1)
        have HM1 := Aside0.mk (blk_below HM.out hb1)
        clear hb1 hc0 hc1
        go_wp2_with fail
        refine (numerals_reads (w.heap.size + 2) w.heap.size s x l c ts w1 HS1.out HT.out HN.out hlt HCL.out).mono ?_
        rintro e w2 ⟨rfl, hA⟩
        rw [← HE.out] at hA ⊢
        have HA := Aside0.mk hA
        have HM2 := Aside0.mk ((hA.fr.block (w.heap.size + 1) (by omega) (by omega)).trans HM1.out)
        have HB2 : Aside0 (Below w.heap.size w w2) := ⟨HB1.out.trans (hA.fr.to_below (by omega) (Nat.le_refl _))⟩
        clear hA hlk
        by_cases he : (readOne s x).err = 0
        · have hge : ((readOne s x).err != 0) = false := by rw [he]; rfl
          have hgp := HGO.out.pos he
          have HG2 := Aside0.mk (scanGo_more hlt he (d := k1) (l := l) (c := c) (ts := ts))
          have HT2 : Aside0 (((readOne s x).ts l c ts).length ≤ x + (readOne s x).n) := ⟨by have := ts_length (readOne s x) l c ts; have := HT.out; omega⟩
          have HN2 : Aside0 (Nb s ((x + (readOne s x).n : Nat) : Int) (lc s x l c (readOne s x).n).1 (lc s x l c (readOne s x).n).2) := ⟨by have := lc_bounds HN.out (readOne s x).n (by omega); rw [← Int.natCast_add] at this; exact this⟩
          generalize readOne s x = rr at *
          clear he
          go_wp2
          go_roundg k1
          case measure => have := HK.out; omega
          case rel => exact ⟨x + rr.n, _, _, _, by omega, ⟨by rw [← HG2.out, HG.out]⟩, ⟨by have := HK.out; omega⟩, HT2, HN2, ⟨HA.out.sc⟩, HM2, HB2⟩
        · have hge : ((readOne s x).err != 0) = true := by rw [bne_iff_ne]; exact he
          have hgE := scanGo_bad HK.out hlt (l := l) (c := c) (ts := ts) he
          rw [HG.out] at hgE
          have HQ := Aside0.mk hgE
          have hbad := HGO.out.bad he
          have hsc := HA.out.sc
          rw [hbad] at hsc
          obtain ⟨_, _, v2, hC2, _⟩ := hsc
          have hd2 : w2.cell? ⟨w.heap.size, 2, none⟩ = some (.int .i64 l) := hC2.c2
          have hd3 : w2.cell? ⟨w.heap.size, 3, none⟩ = some (.int .i64 c) := hC2.c3
          clear hgE hbad hC2 he
          generalize (readOne s x).err = er at *
          go_wp2
          go_quiet (fail)
          go_wp2
          refine bodyPost_ret (results_list (rs := [.tmp 2, .tmp 3, .tmp 4, .tmp 5]) rfl (by simp) (.tmp (.tmp (.tmp (.tmp .nil))))) rfl ?_
          have hgE := HQ.out
          injection hgE with e1 hgE
          injection hgE with e2 hgE
          injection hgE with e3 e4
          subst e1 e2 e3 e4
          exact ⟨_, rfl, Kd.R_nil _ _ _ _ _, pw_below_drewN HB2.out _⟩
      · have HE := Aside0.mk (one_5 hcl)
        have HCL := Aside0.mk hcl
        have HGO := Aside0.mk hgo
        clear hcl hgo
        go_wp2_with fail
        rw [HX.out]
        refine (class_calls _ _).mono ?_
        rintro e w1 ⟨rfl, hb1⟩
        rw [HCL.out]
        have hlk : (Instr.lookup 95 (.map (some (w.heap.size + 1))) (.int .i64 5) true).run Tryz.prog w1 = .ok (.tuple #[.func (.func 67) #[] #[], .bool true]) w1 := look_tab w1 (w.heap.size + 1) 4 (by omega) (blk_below HM.out hb1)
        have HB1 : Aside0 (Below w.heap.size w w1) := ⟨below_then HB.out HB.out.size hb1⟩
        have HS1 := Aside0.mk (HS.out.below hb1)
        have HM1 := Aside0.mk (blk_below HM.out hb1)
        clear hb1 hc0 hc1
        go_wp2_with fail
        refine (hashes_reads (w.heap.size + 2) w.heap.size s x l c ts w1 HS1.out HT.out HN.out hlt HCL.out).mono ?_
        rintro e w2 ⟨rfl, hA⟩
        rw [← HE.out] at hA ⊢
        have HA := Aside0.mk hA
        have HM2 := Aside0.mk ((hA.fr.block (w.heap.size + 1) (by omega) (by omega)).trans HM1.out)
        have HB2 : Aside0 (Below w.heap.size w w2) := ⟨HB1.out.trans (hA.fr.to_below (by omega) (Nat.le_refl _))⟩
        clear hA hlk
        by_cases he : (readOne s x).err = 0
        · have hge : ((readOne s x).err != 0) = false := by rw [he]; rfl
          have hgp := HGO.out.pos he
          have HG2 := Aside0.mk (scanGo_more hlt he (d := k1) (l := l) (c := c) (ts := ts))
          have HT2 : Aside0 (((readOne s x).ts l c ts).length ≤ x + (readOne s x).n) := ⟨by have := ts_length (readOne s x) l c ts; have := HT.out; omega⟩
          have HN2 : Aside0 (Nb s ((x + (readOne s x).n : Nat) : Int) (lc s x l c (readOne s x).n).1 (lc s x l c (readOne s x).n).2) := ⟨by have := lc_bounds HN.out (readOne s x).n (by omega); rw [← Int.natCast_add] at this; exact this⟩
          generalize readOne s x = rr at *
          clear he
          go_wp2
          go_roundg k1
          case measure => have := HK.out; omega
          case rel => exact ⟨x + rr.n, _, _, _, by omega, ⟨by rw [← HG2.out, HG.out]⟩, ⟨by have := HK.out; omega⟩, HT2, HN2, ⟨HA.out.sc⟩, HM2, HB2⟩
        · have hge : ((readOne s x).err != 0) = true := by rw [bne_iff_ne]; exact he
          have hgE := scanGo_bad HK.out hlt (l := l) (c := c) (ts := ts) he
          rw [HG.out] at hgE
          have HQ := Aside0.mk hgE
          have hbad := HGO.out.bad he
          have hsc := HA.out.sc
          rw [hbad] at hsc
          obtain ⟨_, _, v2, hC2, _⟩ := hsc
          have hd2 : w2.cell? ⟨w.heap.size, 2, none⟩ = some (.int .i64 l) := hC2.c2
          have hd3 : w2.cell? ⟨w.heap.size, 3, none⟩ = some (.int .i64 c) := hC2.c3
          clear hgE hbad hC2 he
          generalize (readOne s x).err = er at *
          go_wp2
          go_quiet (fail)
          go_wp2
          refine bodyPost_ret (results_list (rs := [.tmp 2, .tmp 3, .tmp 4, .tmp 5]) rfl (by simp) (.tmp (.tmp (.tmp (.tmp .nil))))) rfl ?_
          have hgE := HQ.out
          injection hgE with e1 hgE
          injection hgE with e2 hgE
          injection hgE with e3 e4
          subst e1 e2 e3 e4
          exact ⟨_, rfl, Kd.R_nil _ _ _ _ _, pw_below_drewN HB2.out _⟩
      · have HE := Aside0.mk (one_6 hcl)
        have HCL := Aside0.mk hcl
        have HGO := Aside0.mk hgo
        clear hcl hgo
        go_wp2_with fail
        rw [HX.out]
        refine (class_calls _ _).mono ?_
        rintro e w1 ⟨rfl, hb1⟩
        rw [HCL.out]
        have hlk : (Instr.lookup 95 (.map (some (w.heap.size + 1))) (.int .i64 6) true).run Tryz.prog w1 = .ok (.tuple #[.func (.func 68) #[] #[], .bool true]) w1 := look_tab w1 (w.heap.size + 1) 5 (by omega) (blk_below HM.out hb1)
        have HB1 : Aside0 (Below w.heap.size w w1) := ⟨below_then HB.out HB.out.size hb1⟩
        have HS1 := Aside0.mk (HS.out.below hb1)
        have HM1 := Aside0.mk (blk_below HM.out hb1)
        clear hb1 hc0 hc1
        go_wp2_with fail
        refine (quotes_reads (w.heap.size + 2) w.heap.size s x l c ts w1 HS1.out HT.out HN.out hlt HCL.out).mono ?_
        rintro e w2 ⟨rfl, hA⟩
        rw [← HE.out] at hA ⊢
        have HA := Aside0.mk hA
        have HM2 := Aside0.mk ((hA.fr.block (w.heap.size + 1) (by omega) (by omega)).trans HM1.out)
        have HB2 : Aside0 (Below w.heap.size w w2) := ⟨HB1.out.trans (hA.fr.to_below (by omega) (Nat.le_refl _))⟩
        clear hA hlk
        by_cases he : (readOne s x).err = 0
        · have hge : ((readOne s x).err != 0) = false := by rw [he]; rfl
          have hgp := HGO.out.pos he
          have HG2 := Aside0.mk (scanGo_more hlt he (d := k1) (l := l) (c := c) (ts := ts))
          have HT2 : Aside0 (((readOne s x).ts l c ts).length ≤ x + (readOne s x).n) := ⟨by have := ts_length (readOne s x) l c ts; have := HT.out; omega⟩
          have HN2 : Aside0 (Nb s ((x + (readOne s x).n : Nat) : Int) (lc s x l c (readOne s x).n).1 (lc s x l c (readOne s x).n).2) := ⟨by have := lc_bounds HN.out (readOne s x).n (by omega); rw [← Int.natCast_add] at this; exact this⟩
          generalize readOne s x = rr at *
          clear he
          go_wp2
          go_roundg k1
          case measure => have := HK.out; omega
          case rel => exact ⟨x + rr.n, _, _, _, by omega, ⟨by rw [← HG2.out, HG.out]⟩, ⟨by have := HK.out; omega⟩, HT2, HN2, ⟨HA.out.sc⟩, HM2, HB2⟩
        · have hge : ((readOne s x).err != 0) = true := by rw [bne_iff_ne]; exact he
          have hgE := scanGo_bad HK.out hlt (l := l) (c := c) (ts := ts) he
          rw [HG.out] at hgE
          have HQ := Aside0.mk hgE
          have hbad := HGO.out.bad he
          have hsc := HA.out.sc
          rw [hbad] at hsc
          obtain ⟨_, _, v2, hC2, _⟩ := hsc
          have hd2 : w2.cell? ⟨w.heap.size, 2, none⟩ = some (.int .i64 l) := hC2.c2
          have hd3 : w2.cell? ⟨w.heap.size, 3, none⟩ = some (.int .i64 c) := hC2.c3
          clear hgE hbad hC2 he
          generalize (readOne s x).err = er at *
          go_wp2
          go_quiet (fail)
          go_wp2
          refine bodyPost_ret (results_list (rs := [.tmp 2, .tmp 3, .tmp 4, .tmp 5]) rfl (by simp) (.tmp (.tmp (.tmp (.tmp .nil))))) rfl ?_
          have hgE := HQ.out
          injection hgE with e1 hgE
          injection hgE with e2 hgE
          injection hgE with e3 e4
          subst e1 e2 e3 e4
          exact ⟨_, rfl, Kd.R_nil _ _ _ _ _, pw_below_drewN HB2.out _⟩
      · have HE := Aside0.mk (one_7 hcl)
        have HCL := Aside0.mk hcl
        have HGO := Aside0.mk hgo
        clear hcl hgo
        go_wp2_with fail
        rw [HX.out]
        refine (class_calls _ _).mono ?_
        rintro e w1 ⟨rfl, hb1⟩
        rw [HCL.out]
        have hlk : (Instr.lookup 95 (.map (some (w.heap.size + 1))) (.int .i64 7) true).run Tryz.prog w1 = .ok (.tuple #[.func (.func 69) #[] #[], .bool true]) w1 := look_tab w1 (w.heap.size + 1) 6 (by omega) (blk_below HM.out hb1)
        have HB1 : Aside0 (Below w.heap.size w w1) := ⟨below_then HB.out HB.out.size hb1⟩
        have HS1 := Aside0.mk (HS.out.below hb1)
        have HM1 := Aside0.mk (blk_below HM.out hb1)
        clear hb1 hc0 hc1
        go_wp2_with fail
        refine (bars_reads (w.heap.size + 2) w.heap.size s x l c ts w1 HS1.out HT.out HN.out hlt HCL.out).mono ?_
        rintro e w2 ⟨rfl, hA⟩
        rw [← HE.out] at hA ⊢
        have HA := Aside0.mk hA
        have HM2 := Aside0.mk ((hA.fr.block (w.heap.size + 1) (by omega) (by omega)).trans HM1.out)
        have HB2 : Aside0 (Below w.heap.size w w2) := ⟨HB1.out.trans (hA.fr.to_below (by omega) (Nat.le_refl _))⟩
        clear hA hlk
        by_cases he : (readOne s x).err = 0
        · have hge : ((readOne s x).err != 0) = false := by rw [he]; rfl
          have hgp := HGO.out.pos he
          have HG2 := Aside0.mk (scanGo_more hlt he (d := k1) (l := l) (c := c) (ts := ts))
          have HT2 : Aside0 (((readOne s x).ts l c ts).length ≤ x + (readOne s x).n) := ⟨by have := ts_length (readOne s x) l c ts; have := HT.out; omega⟩
          have HN2 : Aside0 (Nb s ((x + (readOne s x).n : Nat) : Int) (lc s x l c (readOne s x).n).1 (lc s x l c (readOne s x).n).2) := ⟨by have := lc_bounds HN.out (readOne s x).n (by omega); rw [← Int.natCast_add] at this; exact this⟩
          generalize readOne s x = rr at *
          clear he
          go_wp2
          go_roundg k1
          case measure => have := HK.out; omega
          case rel => exact ⟨x + rr.n, _, _, _, by omega, ⟨by rw [← HG2.out, HG.out]⟩, ⟨by have := HK.out; omega⟩, HT2, HN2, ⟨HA.out.sc⟩, HM2, HB2⟩
        · have hge : ((readOne s x).err != 0) = true := by rw [bne_iff_ne]; exact he
          have hgE := scanGo_bad HK.out hlt (l := l) (c := c) (ts := ts) he
          rw [HG.out] at hgE
          have HQ := Aside0.mk hgE
          have hbad := HGO.out.bad he
          have hsc := HA.out.sc
          rw [hbad] at hsc
          obtain ⟨_, _, v2, hC2, _⟩ := hsc
          have hd2 : w2.cell? ⟨w.heap.size, 2, none⟩ = some (.int .i64 l) := hC2.c2
          have hd3 : w2.cell? ⟨w.heap.size, 3, none⟩ = some (.int .i64 c) := hC2.c3
          clear hgE hbad hC2 he
          generalize (readOne s x).err = er at *
          go_wp2
          go_quiet (fail)
          go_wp2
          refine bodyPost_ret (results_list (rs := [.tmp 2, .tmp 3, .tmp 4, .tmp 5]) rfl (by simp) (.tmp (.tmp (.tmp (.tmp .nil))))) rfl ?_
          have hgE := HQ.out
          injection hgE with e1 hgE
          injection hgE with e2 hgE
          injection hgE with e3 e4
          subst e1 e2 e3 e4
          exact ⟨_, rfl, Kd.R_nil _ _ _ _ _, pw_below_drewN HB2.out _⟩
      · have HE := Aside0.mk (one_8 hcl)
        have HCL := Aside0.mk hcl
        have HGO := Aside0.mk hgo
        clear hcl hgo
        go_wp2_with fail
        rw [HX.out]
        refine (class_calls _ _).mono ?_
        rintro e w1 ⟨rfl, hb1⟩
        rw [HCL.out]
        have hlk : (Instr.lookup 95 (.map (some (w.heap.size + 1))) (.int .i64 8) true).run Tryz.prog w1 = .ok (.tuple #[.func (.func 70) #[] #[], .bool true]) w1 := look_tab w1 (w.heap.size + 1) 7 (by omega) (blk_below HM.out hb1)
        have HB1 : Aside0 (Below w.heap.size w w1) := ⟨below_then HB.out HB.out.size hb1⟩
        have HS1 := Aside0.mk (HS.out.below hb1)
        have HM1 := Aside0.mk (blk_below HM.out hb1)
        clear hb1 hc0 hc1
        go_wp2_with fail
        refine (colons_reads (w.heap.size + 2) w.heap.size s x l c ts w1 HS1.out HT.out HN.out hlt HCL.out).mono ?_
        rintro e w2 ⟨rfl, hA⟩
        rw [← HE.out] at hA ⊢
        have HA := Aside0.mk hA
        have HM2 := Aside0.mk ((hA.fr.block (w.heap.size + 1) (by omega) (by omega)).trans HM1.out)
        have HB2 : Aside0 (Below w.heap.size w w2) := ⟨HB1.out.trans (hA.fr.to_below (by omega) (Nat.le_refl _))⟩
        clear hA hlk
        by_cases he : (readOne s x).err = 0
        · have hge : ((readOne s x).err != 0) = false := by rw [he]; rfl
          have hgp := HGO.out.pos he
          have HG2 := Aside0.mk (scanGo_more hlt he (d := k1) (l := l) (c := c) (ts := ts))
          have HT2 : Aside0 (((readOne s x).ts l c ts).length ≤ x + (readOne s x).n) := ⟨by have := ts_length (readOne s x) l c ts; have := HT.out; omega⟩
          have HN2 : Aside0 (Nb s ((x + (readOne s x).n : Nat) : Int) (lc s x l c (readOne s x).n).1 (lc s x l c (readOne s x).n).2) := ⟨by have := lc_bounds HN.out (readOne s x).n (by omega); rw [← Int.natCast_add] at this; exact this⟩
          generalize readOne s x = rr at *
          clear he
          go_wp2
          go_roundg k1
          case measure => have := HK.out; omega
          case rel => exact ⟨x + rr.n, _, _, _, by omega, ⟨by rw [← HG2.out, HG.out]⟩, ⟨by have := HK.out; omega⟩, HT2, HN2, ⟨HA.out.sc⟩, HM2, HB2⟩
        · have hge : ((readOne s x).err != 0) = true := by rw [bne_iff_ne]; exact he
          have hgE := scanGo_bad HK.out hlt (l := l) (c := c) (ts := ts) he
          rw [HG.out] at hgE
          have HQ := Aside0.mk hgE
          have hbad := HGO.out.bad he
          have hsc := HA.out.sc
          rw [hbad] at hsc
          obtain ⟨_, _, v2, hC2, _⟩ := hsc
          have hd2 : w2.cell? ⟨w.heap.size, 2, none⟩ = some (.int .i64 l) := hC2.c2
          have hd3 : w2.cell? ⟨w.heap.size, 3, none⟩ = some (.int .i64 c) := hC2.c3
          clear hgE hbad hC2 he
          generalize (readOne s x).err = er at *
          go_wp2
          go_quiet (fail)
          go_wp2
          refine bodyPost_ret (results_list (rs := [.tmp 2, .tmp 3, .tmp 4, .tmp 5]) rfl (by simp) (.tmp (.tmp (.tmp (.tmp .nil))))) rfl ?_
          have hgE := HQ.out
          injection hgE with e1 hgE
          injection hgE with e2 hgE
          injection hgE with e3 e4
          subst e1 e2 e3 e4
          exact ⟨_, rfl, Kd.R_nil _ _ _ _ _, pw_below_drewN HB2.out _⟩
      · have HE := Aside0.mk (one_9 hcl)
        have HCL := Aside0.mk hcl
        have HGO := Aside0.mk hgo
        clear hcl hgo
        go_wp2_with fail
        rw [HX.out]
        refine (class_calls _ _).mono ?_
        rintro e w1 ⟨rfl, hb1⟩
        rw [HCL.out]
        have hlk : (Instr.lookup 95 (.map (some (w.heap.size + 1))) (.int .i64 9) true).run Tryz.prog w1 = .ok (.tuple #[.func (.func 71) #[] #[], .bool true]) w1 := look_tab w1 (w.heap.size + 1) 8 (by omega) (blk_below HM.out hb1)
        have HB1 : Aside0 (Below w.heap.size w w1) := ⟨below_then HB.out HB.out.size hb1⟩
        have HS1 := Aside0.mk (HS.out.below hb1)
        have HM1 := Aside0.mk (blk_below HM.out hb1)
        clear hb1 hc0 hc1
        go_wp2_with fail
        refine (words_reads (w.heap.size + 2) w.heap.size s x l c ts w1 HS1.out HT.out HN.out hlt HCL.out).mono ?_
        rintro e w2 ⟨rfl, hA⟩
        rw [← HE.out] at hA ⊢
        have HA := Aside0.mk hA
        have HM2 := Aside0.mk ((hA.fr.block (w.heap.size + 1) (by omega) (by omega)).trans HM1.out)
        have HB2 : Aside0 (Below w.heap.size w w2) := ⟨HB1.out.trans (hA.fr.to_below (by omega) (Nat.le_refl _))⟩
        clear hA hlk
        by_cases he : (readOne s x).err = 0
        · have hge : ((readOne s x).err != 0) = false := by rw [he]; rfl
          have hgp := HGO.out.pos he
          have HG2 := Aside0.mk (scanGo_more hlt he (d := k1) (l := l) (c := c) (ts := ts))
          have HT2 : Aside0 (((readOne s x).ts l c ts).length ≤ x + (readOne s x).n) := ⟨by have := ts_length (readOne s x) l c ts; have := HT.out; omega⟩
          have HN2 : Aside0 (Nb s ((x + (readOne s x).n : Nat) : Int) (lc s x l c (readOne s x).n).1 (lc s x l c (readOne s x).n).2) := ⟨by have := lc_bounds HN.out (readOne s x).n (by omega); rw [← Int.natCast_add] at this; exact this⟩
          generalize readOne s x = rr at *
          clear he
          go_wp2
          go_roundg k1
          case measure => have := HK.out; omega
          case rel => exact ⟨x + rr.n, _, _, _, by omega, ⟨by rw [← HG2.out, HG.out]⟩, ⟨by have := HK.out; omega⟩, HT2, HN2, ⟨HA.out.sc⟩, HM2, HB2⟩
        · have hge : ((readOne s x).err != 0) = true := by rw [bne_iff_ne]; exact he
          have hgE := scanGo_bad HK.out hlt (l := l) (c := c) (ts := ts) he
          rw [HG.out] at hgE
          have HQ := Aside0.mk hgE
          have hbad := HGO.out.bad he
          have hsc := HA.out.sc
          rw [hbad] at hsc
          obtain ⟨_, _, v2, hC2, _⟩ := hsc
          have hd2 : w2.cell? ⟨w.heap.size, 2, none⟩ = some (.int .i64 l) := hC2.c2
          have hd3 : w2.cell? ⟨w.heap.size, 3, none⟩ = some (.int .i64 c) := hC2.c3
          clear hgE hbad hC2 he
          generalize (readOne s x).err = er at *
          go_wp2
          go_quiet (fail)
          go_wp2
          refine bodyPost_ret (results_list (rs := [.tmp 2, .tmp 3, .tmp 4, .tmp 5]) rfl (by simp) (.tmp (.tmp (.tmp (.tmp .nil))))) rfl ?_
          have hgE := HQ.out
          injection hgE with e1 hgE
          injection hgE with e2 hgE
          injection hgE with e3 e4
          subst e1 e2 e3 e4
          exact ⟨_, rfl, Kd.R_nil _ _ _ _ _, pw_below_drewN HB2.out _⟩
    · have hgE := scanGo_end HK.out hlt (l := l) (c := c) (ts := ts)
      rw [HG.out] at hgE
      have HQ := Aside0.mk hgE
      clear hgE
      go_wp2
      refine bodyPost_ret (results_list (rs := [.tmp 2, .tmp 3, .tmp 4, .tmp 5]) rfl (by simp) (.tmp (.tmp (.tmp (.tmp .nil))))) rfl ?_
      have hgE := HQ.out
      injection hgE with e1 hgE
      injection hgE with e2 hgE
      injection hgE with e3 e4
      subst e1 e2 e3 e4
      exact ⟨_, rfl, Kd.R_mono (Kd.R_lower HR.out (by omega)) (fun _ _ => trivial), HB.out⟩
theorem lexis_Scan.calls (a0 : ByteArray) (r1 : List (S37)) (r2 : Int) (r3 : Int) (r4 : Int) (w : World) (h : lexis_Scan.f a0 = some (r1, r2, r3, r4)) :
    Calls Tryz.prog 34 #[.string a0] w fun e w' => ∃ v0_ : Value, e = .returned (.tuple #[v0_, .int .i64 r2, .int .i64 r3, .int .i64 r4]) ∧ Kd.R k37 37 w' w.heap.size (fun _ => True) v0_ r1 ∧ Below w.heap.size w w' := by
  unfold lexis_Scan.f scanAll at h
  injection h with h
  by_cases hs : a0.size > 1048576
  · rw [if_pos hs] at h
    injection h with e1 h
    injection h with e2 h
    injection h with e3 e4
    subst e1 e2 e3 e4
    refine (scan_long a0 hs w).mono ?_
    rintro e w' ⟨rfl, rfl⟩
    exact ⟨_, rfl, Kd.R_nil _ _ _ _ _, Below.refl _ _⟩
  · rw [if_neg hs] at h
    exact scan_short a0 (by omega) r1 r2 r3 r4 w h
end Go.Proofs.YthklnopfgoekeaaGreatDoor.X
