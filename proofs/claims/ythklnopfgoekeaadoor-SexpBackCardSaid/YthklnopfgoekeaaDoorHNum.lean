import Derived.Test.YthklnopfgoekeaaDoorHBars
namespace Go.Proofs.YthklnopfgoekeaaDoor.X
open Go.RowKit Go.Proofs.YthklnopfgoekeaaDoorW.PrintWords Go.Proofs.YthklnopfgoekeaaDoorW.PrintLast Go.Proofs.YthklnopfgoekeaaDoorW.PrintMore
set_option linter.unusedVariables false

def numOk (s : ByteArray) (x n : Nat) : Bool := decide (n = 1) || bt s x != 48
def numR (s : ByteArray) (x n : Nat) (ok : Bool) : Rd :=
  if x + n < s.size ∧ bt s ((x : Int) + n) = 46 then
    bareR s x 4 (s.extract x (x + (n + (1 + runN digitB s (x + n + 1))))) false (n + (1 + runN digitB s (x + n + 1))) (ok && decide (0 < runN digitB s (x + n + 1)))
  else bareR s x 3 (s.extract x (x + n)) false n ok
def numeralsR (s : ByteArray) (x : Nat) : Rd := numR s x (runN digitB s x) (numOk s x (runN digitB s x))
set_option maxHeartbeats 8000000 in
set_option maxRecDepth 100000 in
theorem numerals_one (B g : Nat) (s : ByteArray) (x : Nat) (l c : Int) (ts : List S38) (w : World) (h : Sc B g s x l c ts w) (hts : ts.length ≤ x) (hb : Nb s x l c) (hx : x < s.size)
    (hn1 : runN digitB s x = 1) :
    Calls Tryd.prog 49 #[.pointer (some ⟨g, 0, none⟩)] w fun e w' => e = .returned (.int .i64 (numR s x (runN digitB s x) true).err) ∧ After B g s x l c ts (numR s x (runN digitB s x) true) w w' := by
  have H := Aside0.mk h
  have HB := Aside0.mk hb
  have hs := hb.size
  obtain ⟨h1, h2, v, hC, hR⟩ := h
  have hc1 := hC.c1
  have HC := Aside0.mk hC
  have hle := runN_le digitB s x (by omega)
  obtain ⟨n, hn⟩ : ∃ n, n = runN digitB s x := ⟨_, rfl⟩
  rw [← hn] at hn1 hle ⊢
  have HN := Aside0.mk hn
  have HYP0 := Aside0.mk hn1
  clear hC hR hb hn hn1
  go_enter Tryd.func49, Tryd.ntmps49
  go_wp2_with fail
  refine (run_digit g s x (by omega) hs w HC.out.c0).mono ?_
  rintro e w1 ⟨rfl, hb1⟩
  rw [← HN.out]
  have HC1 := Aside0.mk (HC.out.below hb1)
  have HB1 := Aside0.mk hb1
  have hd0 := HC1.out.c0
  have hd1 := HC1.out.c1
  clear hb1
  have hix := index_str s (x : Int) x rfl hx
  have hg1 : ((n : Int) == 1) = true := by rw [HYP0.out]; rfl
  go_wp2
  go_quiet (fail)
  generalize hw2 : w1.drewN _ = w2
  have HC2 : Aside0 (Cells g s x l c v w2) := ⟨by rw [← hw2]; exact HC1.out.drewN _⟩
  have HB2 : Aside0 (Below w.heap.size w w2) := ⟨by rw [← hw2]; exact pw_below_drewN HB1.out _⟩
  clear hw2 hd0 hd1 hix hg1
  have hd0 := HC2.out.c0
  have hd1 := HC2.out.c1
  have hwr := wrap_in ((x : Int) + n) (by omega) (by omega)
  by_cases hin : x + n < s.size
  · have hg : decide ((x : Int) + n < (s.size : Int)) = true := decide_eq_true (by omega)
    have hix := index_str s ((x : Int) + n) (x + n) (by omega) hin
    by_cases h46 : (bt s ((x : Int) + n) == 46) = true
    · have hle2 := runN_le digitB s (x + n + 1) (by omega)
      obtain ⟨k, hk⟩ : ∃ k, k = runN digitB s (x + n + 1) := ⟨_, rfl⟩
      have HE : Aside0 (numR s x n true = bareR s x 4 (s.extract x (x + (n + (1 + k)))) false (n + (1 + k)) (true && decide (0 < k))) := ⟨by unfold numR; rw [if_pos ⟨hin, by simpa using h46⟩, hk]⟩
      rw [← hk] at hle2
      have HK := Aside0.mk hk
      clear hk
      go_wp2
      go_quiet (fail)
      generalize hw3 : w2.drewN _ = w3
      have HC3 : Aside0 (Cells g s x l c v w3) := ⟨by rw [← hw3]; exact HC2.out.drewN _⟩
      have HB3 : Aside0 (Below w.heap.size w w3) := ⟨by rw [← hw3]; exact pw_below_drewN HB2.out _⟩
      clear hw3 hd0 hd1 hix hg h46
      have hd0 := HC3.out.c0
      have hd1 := HC3.out.c1
      go_wp2_with fail
      have hrun := run_digit g s (x + n + 1) (by omega) hs w3 HC3.out.c0
      rw [show ((x + n + 1 : Nat) : Int) = (x : Int) + n + 1 from by omega] at hrun
      refine hrun.mono ?_
      clear hrun
      rintro e w4 ⟨rfl, hb4⟩
      rw [← HK.out]
      have HC4 := Aside0.mk (HC3.out.below hb4)
      have HB4 : Aside0 (Below w.heap.size w w4) := ⟨below_then HB3.out HB3.out.size hb4⟩
      clear hb4 hd0 hd1
      have hd0 := HC4.out.c0
      have hd1 := HC4.out.c1
      go_wp2
      have hwr2 := wrap_in ((x : Int) + ((n : Int) + (1 + k))) (by omega) (by omega)
      have hsl := slice_str s (x : Int) ((x : Int) + ((n : Int) + (1 + k))) x (x + (n + (1 + k))) rfl (by omega) (by omega) (by omega)
      go_still_tail 20, (by kernel_rfl)
      change wpList _ _ _ _ _ w4.drew
      clear hwr hwr2 hsl
      go_wp2_with fail
      refine (bare_on B g s x l c ts 4 (s.extract x (x + (n + (1 + k)))) false (n + (1 + k)) _ w _ H.out hts HB.out (by omega) _ (by omega) (below_drew_any HB4.out)).mono ?_
      rintro e w5 ⟨rfl, hA⟩
      have HA := Aside0.mk hA
      clear hA
      go_wp2
      go_ret
      rw [HE.out]
      exact ⟨rfl, HA.out⟩
    · replace h46 := Bool.eq_false_iff.mpr h46
      have HE : Aside0 (numR s x n true = bareR s x 3 (s.extract x (x + n)) false n true) := ⟨by unfold numR; rw [if_neg (fun h => by simp [h.2] at h46)]⟩
      go_wp2
      go_quiet (fail)
      generalize hw3 : w2.drewN _ = w3
      have HC3 : Aside0 (Cells g s x l c v w3) := ⟨by rw [← hw3]; exact HC2.out.drewN _⟩
      have HB3 : Aside0 (Below w.heap.size w w3) := ⟨by rw [← hw3]; exact pw_below_drewN HB2.out _⟩
      clear hw3 hd0 hd1 hix hg h46
      have hd0 := HC3.out.c0
      have hd1 := HC3.out.c1
      go_wp2
      have hsl := slice_str s (x : Int) ((x : Int) + n) x (x + n) rfl (by omega) (by omega) (by omega)
      go_still_tail 20, (by kernel_rfl)
      change wpList _ _ _ _ _ w3.drew
      clear hwr hsl
      go_wp2_with fail
      refine (bare_on B g s x l c ts 3 (s.extract x (x + n)) false n true w _ H.out hts HB.out (by omega) _ (by omega) (below_drew_any HB3.out)).mono ?_
      rintro e w5 ⟨rfl, hA⟩
      have HA := Aside0.mk hA
      clear hA
      go_wp2
      go_ret
      rw [HE.out]
      exact ⟨rfl, HA.out⟩
  · have hg : decide ((x : Int) + n < (s.size : Int)) = false := decide_eq_false (by omega)
    have HE : Aside0 (numR s x n true = bareR s x 3 (s.extract x (x + n)) false n true) := ⟨by unfold numR; rw [if_neg (fun h => hin h.1)]⟩
    go_wp2
    go_quiet (fail)
    generalize hw3 : w2.drewN _ = w3
    have HC3 : Aside0 (Cells g s x l c v w3) := ⟨by rw [← hw3]; exact HC2.out.drewN _⟩
    have HB3 : Aside0 (Below w.heap.size w w3) := ⟨by rw [← hw3]; exact pw_below_drewN HB2.out _⟩
    clear hw3 hd0 hd1 hg
    have hd0 := HC3.out.c0
    have hd1 := HC3.out.c1
    go_wp2
    have hsl := slice_str s (x : Int) ((x : Int) + n) x (x + n) rfl (by omega) (by omega) (by omega)
    go_still_tail 20, (by kernel_rfl)
    change wpList _ _ _ _ _ w3.drew
    clear hwr hsl
    go_wp2_with fail
    refine (bare_on B g s x l c ts 3 (s.extract x (x + n)) false n true w _ H.out hts HB.out (by omega) _ (by omega) (below_drew_any HB3.out)).mono ?_
    rintro e w5 ⟨rfl, hA⟩
    have HA := Aside0.mk hA
    clear hA
    go_wp2
    go_ret
    rw [HE.out]
    exact ⟨rfl, HA.out⟩
set_option maxHeartbeats 8000000 in
set_option maxRecDepth 100000 in
theorem numerals_many (B g : Nat) (s : ByteArray) (x : Nat) (l c : Int) (ts : List S38) (w : World) (h : Sc B g s x l c ts w) (hts : ts.length ≤ x) (hb : Nb s x l c) (hx : x < s.size)
    (hn1 : runN digitB s x ≠ 1) (h48 : (bt s x != 48) = true) :
    Calls Tryd.prog 49 #[.pointer (some ⟨g, 0, none⟩)] w fun e w' => e = .returned (.int .i64 (numR s x (runN digitB s x) true).err) ∧ After B g s x l c ts (numR s x (runN digitB s x) true) w w' := by
  have H := Aside0.mk h
  have HB := Aside0.mk hb
  have hs := hb.size
  obtain ⟨h1, h2, v, hC, hR⟩ := h
  have hc1 := hC.c1
  have HC := Aside0.mk hC
  have hle := runN_le digitB s x (by omega)
  obtain ⟨n, hn⟩ : ∃ n, n = runN digitB s x := ⟨_, rfl⟩
  rw [← hn] at hn1 hle ⊢
  have HN := Aside0.mk hn
  have HYP0 := Aside0.mk hn1
  clear hC hR hb hn hn1
  go_enter Tryd.func49, Tryd.ntmps49
  go_wp2_with fail
  refine (run_digit g s x (by omega) hs w HC.out.c0).mono ?_
  rintro e w1 ⟨rfl, hb1⟩
  rw [← HN.out]
  have HC1 := Aside0.mk (HC.out.below hb1)
  have HB1 := Aside0.mk hb1
  have hd0 := HC1.out.c0
  have hd1 := HC1.out.c1
  clear hb1
  have hix := index_str s (x : Int) x rfl hx
  have hg1 : ((n : Int) == 1) = false := by rw [beq_eq_false_iff_ne]; have := HYP0.out; omega
  go_wp2
  go_quiet (fail)
  generalize hw2 : w1.drewN _ = w2
  have HC2 : Aside0 (Cells g s x l c v w2) := ⟨by rw [← hw2]; exact HC1.out.drewN _⟩
  have HB2 : Aside0 (Below w.heap.size w w2) := ⟨by rw [← hw2]; exact pw_below_drewN HB1.out _⟩
  clear hw2 hd0 hd1 hix hg1 h48
  have hd0 := HC2.out.c0
  have hd1 := HC2.out.c1
  have hwr := wrap_in ((x : Int) + n) (by omega) (by omega)
  by_cases hin : x + n < s.size
  · have hg : decide ((x : Int) + n < (s.size : Int)) = true := decide_eq_true (by omega)
    have hix := index_str s ((x : Int) + n) (x + n) (by omega) hin
    by_cases h46 : (bt s ((x : Int) + n) == 46) = true
    · have hle2 := runN_le digitB s (x + n + 1) (by omega)
      obtain ⟨k, hk⟩ : ∃ k, k = runN digitB s (x + n + 1) := ⟨_, rfl⟩
      have HE : Aside0 (numR s x n true = bareR s x 4 (s.extract x (x + (n + (1 + k)))) false (n + (1 + k)) (true && decide (0 < k))) := ⟨by unfold numR; rw [if_pos ⟨hin, by simpa using h46⟩, hk]⟩
      rw [← hk] at hle2
      have HK := Aside0.mk hk
      clear hk
      go_wp2
      go_quiet (fail)
      generalize hw3 : w2.drewN _ = w3
      have HC3 : Aside0 (Cells g s x l c v w3) := ⟨by rw [← hw3]; exact HC2.out.drewN _⟩
      have HB3 : Aside0 (Below w.heap.size w w3) := ⟨by rw [← hw3]; exact pw_below_drewN HB2.out _⟩
      clear hw3 hd0 hd1 hix hg h46
      have hd0 := HC3.out.c0
      have hd1 := HC3.out.c1
      go_wp2_with fail
      have hrun := run_digit g s (x + n + 1) (by omega) hs w3 HC3.out.c0
      rw [show ((x + n + 1 : Nat) : Int) = (x : Int) + n + 1 from by omega] at hrun
      refine hrun.mono ?_
      clear hrun
      rintro e w4 ⟨rfl, hb4⟩
      rw [← HK.out]
      have HC4 := Aside0.mk (HC3.out.below hb4)
      have HB4 : Aside0 (Below w.heap.size w w4) := ⟨below_then HB3.out HB3.out.size hb4⟩
      clear hb4 hd0 hd1
      have hd0 := HC4.out.c0
      have hd1 := HC4.out.c1
      go_wp2
      have hwr2 := wrap_in ((x : Int) + ((n : Int) + (1 + k))) (by omega) (by omega)
      have hsl := slice_str s (x : Int) ((x : Int) + ((n : Int) + (1 + k))) x (x + (n + (1 + k))) rfl (by omega) (by omega) (by omega)
      go_still_tail 20, (by kernel_rfl)
      change wpList _ _ _ _ _ w4.drew
      clear hwr hwr2 hsl
      go_wp2_with fail
      refine (bare_on B g s x l c ts 4 (s.extract x (x + (n + (1 + k)))) false (n + (1 + k)) _ w _ H.out hts HB.out (by omega) _ (by omega) (below_drew_any HB4.out)).mono ?_
      rintro e w5 ⟨rfl, hA⟩
      have HA := Aside0.mk hA
      clear hA
      go_wp2
      go_ret
      rw [HE.out]
      exact ⟨rfl, HA.out⟩
    · replace h46 := Bool.eq_false_iff.mpr h46
      have HE : Aside0 (numR s x n true = bareR s x 3 (s.extract x (x + n)) false n true) := ⟨by unfold numR; rw [if_neg (fun h => by simp [h.2] at h46)]⟩
      go_wp2
      go_quiet (fail)
      generalize hw3 : w2.drewN _ = w3
      have HC3 : Aside0 (Cells g s x l c v w3) := ⟨by rw [← hw3]; exact HC2.out.drewN _⟩
      have HB3 : Aside0 (Below w.heap.size w w3) := ⟨by rw [← hw3]; exact pw_below_drewN HB2.out _⟩
      clear hw3 hd0 hd1 hix hg h46
      have hd0 := HC3.out.c0
      have hd1 := HC3.out.c1
      go_wp2
      have hsl := slice_str s (x : Int) ((x : Int) + n) x (x + n) rfl (by omega) (by omega) (by omega)
      go_still_tail 20, (by kernel_rfl)
      change wpList _ _ _ _ _ w3.drew
      clear hwr hsl
      go_wp2_with fail
      refine (bare_on B g s x l c ts 3 (s.extract x (x + n)) false n true w _ H.out hts HB.out (by omega) _ (by omega) (below_drew_any HB3.out)).mono ?_
      rintro e w5 ⟨rfl, hA⟩
      have HA := Aside0.mk hA
      clear hA
      go_wp2
      go_ret
      rw [HE.out]
      exact ⟨rfl, HA.out⟩
  · have hg : decide ((x : Int) + n < (s.size : Int)) = false := decide_eq_false (by omega)
    have HE : Aside0 (numR s x n true = bareR s x 3 (s.extract x (x + n)) false n true) := ⟨by unfold numR; rw [if_neg (fun h => hin h.1)]⟩
    go_wp2
    go_quiet (fail)
    generalize hw3 : w2.drewN _ = w3
    have HC3 : Aside0 (Cells g s x l c v w3) := ⟨by rw [← hw3]; exact HC2.out.drewN _⟩
    have HB3 : Aside0 (Below w.heap.size w w3) := ⟨by rw [← hw3]; exact pw_below_drewN HB2.out _⟩
    clear hw3 hd0 hd1 hg
    have hd0 := HC3.out.c0
    have hd1 := HC3.out.c1
    go_wp2
    have hsl := slice_str s (x : Int) ((x : Int) + n) x (x + n) rfl (by omega) (by omega) (by omega)
    go_still_tail 20, (by kernel_rfl)
    change wpList _ _ _ _ _ w3.drew
    clear hwr hsl
    go_wp2_with fail
    refine (bare_on B g s x l c ts 3 (s.extract x (x + n)) false n true w _ H.out hts HB.out (by omega) _ (by omega) (below_drew_any HB3.out)).mono ?_
    rintro e w5 ⟨rfl, hA⟩
    have HA := Aside0.mk hA
    clear hA
    go_wp2
    go_ret
    rw [HE.out]
    exact ⟨rfl, HA.out⟩
set_option maxHeartbeats 8000000 in
set_option maxRecDepth 100000 in
theorem numerals_zero (B g : Nat) (s : ByteArray) (x : Nat) (l c : Int) (ts : List S38) (w : World) (h : Sc B g s x l c ts w) (hts : ts.length ≤ x) (hb : Nb s x l c) (hx : x < s.size)
    (hn1 : runN digitB s x ≠ 1) (h48 : (bt s x != 48) = false) :
    Calls Tryd.prog 49 #[.pointer (some ⟨g, 0, none⟩)] w fun e w' => e = .returned (.int .i64 (numR s x (runN digitB s x) false).err) ∧ After B g s x l c ts (numR s x (runN digitB s x) false) w w' := by
  have H := Aside0.mk h
  have HB := Aside0.mk hb
  have hs := hb.size
  obtain ⟨h1, h2, v, hC, hR⟩ := h
  have hc1 := hC.c1
  have HC := Aside0.mk hC
  have hle := runN_le digitB s x (by omega)
  obtain ⟨n, hn⟩ : ∃ n, n = runN digitB s x := ⟨_, rfl⟩
  rw [← hn] at hn1 hle ⊢
  have HN := Aside0.mk hn
  have HYP0 := Aside0.mk hn1
  clear hC hR hb hn hn1
  go_enter Tryd.func49, Tryd.ntmps49
  go_wp2_with fail
  refine (run_digit g s x (by omega) hs w HC.out.c0).mono ?_
  rintro e w1 ⟨rfl, hb1⟩
  rw [← HN.out]
  have HC1 := Aside0.mk (HC.out.below hb1)
  have HB1 := Aside0.mk hb1
  have hd0 := HC1.out.c0
  have hd1 := HC1.out.c1
  clear hb1
  have hix := index_str s (x : Int) x rfl hx
  have hg1 : ((n : Int) == 1) = false := by rw [beq_eq_false_iff_ne]; have := HYP0.out; omega
  go_wp2
  go_quiet (fail)
  generalize hw2 : w1.drewN _ = w2
  have HC2 : Aside0 (Cells g s x l c v w2) := ⟨by rw [← hw2]; exact HC1.out.drewN _⟩
  have HB2 : Aside0 (Below w.heap.size w w2) := ⟨by rw [← hw2]; exact pw_below_drewN HB1.out _⟩
  clear hw2 hd0 hd1 hix hg1 h48
  have hd0 := HC2.out.c0
  have hd1 := HC2.out.c1
  have hwr := wrap_in ((x : Int) + n) (by omega) (by omega)
  by_cases hin : x + n < s.size
  · have hg : decide ((x : Int) + n < (s.size : Int)) = true := decide_eq_true (by omega)
    have hix := index_str s ((x : Int) + n) (x + n) (by omega) hin
    by_cases h46 : (bt s ((x : Int) + n) == 46) = true
    · have hle2 := runN_le digitB s (x + n + 1) (by omega)
      obtain ⟨k, hk⟩ : ∃ k, k = runN digitB s (x + n + 1) := ⟨_, rfl⟩
      have HE : Aside0 (numR s x n false = bareR s x 4 (s.extract x (x + (n + (1 + k)))) false (n + (1 + k)) (false && decide (0 < k))) := ⟨by unfold numR; rw [if_pos ⟨hin, by simpa using h46⟩, hk]⟩
      rw [← hk] at hle2
      have HK := Aside0.mk hk
      clear hk
      go_wp2
      go_quiet (fail)
      generalize hw3 : w2.drewN _ = w3
      have HC3 : Aside0 (Cells g s x l c v w3) := ⟨by rw [← hw3]; exact HC2.out.drewN _⟩
      have HB3 : Aside0 (Below w.heap.size w w3) := ⟨by rw [← hw3]; exact pw_below_drewN HB2.out _⟩
      clear hw3 hd0 hd1 hix hg h46
      have hd0 := HC3.out.c0
      have hd1 := HC3.out.c1
      go_wp2_with fail
      have hrun := run_digit g s (x + n + 1) (by omega) hs w3 HC3.out.c0
      rw [show ((x + n + 1 : Nat) : Int) = (x : Int) + n + 1 from by omega] at hrun
      refine hrun.mono ?_
      clear hrun
      rintro e w4 ⟨rfl, hb4⟩
      rw [← HK.out]
      have HC4 := Aside0.mk (HC3.out.below hb4)
      have HB4 : Aside0 (Below w.heap.size w w4) := ⟨below_then HB3.out HB3.out.size hb4⟩
      clear hb4 hd0 hd1
      have hd0 := HC4.out.c0
      have hd1 := HC4.out.c1
      go_wp2
      have hwr2 := wrap_in ((x : Int) + ((n : Int) + (1 + k))) (by omega) (by omega)
      have hsl := slice_str s (x : Int) ((x : Int) + ((n : Int) + (1 + k))) x (x + (n + (1 + k))) rfl (by omega) (by omega) (by omega)
      go_still_tail 20, (by kernel_rfl)
      change wpList _ _ _ _ _ w4.drew
      clear hwr hwr2 hsl
      go_wp2_with fail
      refine (bare_on B g s x l c ts 4 (s.extract x (x + (n + (1 + k)))) false (n + (1 + k)) _ w _ H.out hts HB.out (by omega) _ (by omega) (below_drew_any HB4.out)).mono ?_
      rintro e w5 ⟨rfl, hA⟩
      have HA := Aside0.mk hA
      clear hA
      go_wp2
      go_ret
      rw [HE.out]
      exact ⟨rfl, HA.out⟩
    · replace h46 := Bool.eq_false_iff.mpr h46
      have HE : Aside0 (numR s x n false = bareR s x 3 (s.extract x (x + n)) false n false) := ⟨by unfold numR; rw [if_neg (fun h => by simp [h.2] at h46)]⟩
      go_wp2
      go_quiet (fail)
      generalize hw3 : w2.drewN _ = w3
      have HC3 : Aside0 (Cells g s x l c v w3) := ⟨by rw [← hw3]; exact HC2.out.drewN _⟩
      have HB3 : Aside0 (Below w.heap.size w w3) := ⟨by rw [← hw3]; exact pw_below_drewN HB2.out _⟩
      clear hw3 hd0 hd1 hix hg h46
      have hd0 := HC3.out.c0
      have hd1 := HC3.out.c1
      go_wp2
      have hsl := slice_str s (x : Int) ((x : Int) + n) x (x + n) rfl (by omega) (by omega) (by omega)
      go_still_tail 20, (by kernel_rfl)
      change wpList _ _ _ _ _ w3.drew
      clear hwr hsl
      go_wp2_with fail
      refine (bare_on B g s x l c ts 3 (s.extract x (x + n)) false n false w _ H.out hts HB.out (by omega) _ (by omega) (below_drew_any HB3.out)).mono ?_
      rintro e w5 ⟨rfl, hA⟩
      have HA := Aside0.mk hA
      clear hA
      go_wp2
      go_ret
      rw [HE.out]
      exact ⟨rfl, HA.out⟩
  · have hg : decide ((x : Int) + n < (s.size : Int)) = false := decide_eq_false (by omega)
    have HE : Aside0 (numR s x n false = bareR s x 3 (s.extract x (x + n)) false n false) := ⟨by unfold numR; rw [if_neg (fun h => hin h.1)]⟩
    go_wp2
    go_quiet (fail)
    generalize hw3 : w2.drewN _ = w3
    have HC3 : Aside0 (Cells g s x l c v w3) := ⟨by rw [← hw3]; exact HC2.out.drewN _⟩
    have HB3 : Aside0 (Below w.heap.size w w3) := ⟨by rw [← hw3]; exact pw_below_drewN HB2.out _⟩
    clear hw3 hd0 hd1 hg
    have hd0 := HC3.out.c0
    have hd1 := HC3.out.c1
    go_wp2
    have hsl := slice_str s (x : Int) ((x : Int) + n) x (x + n) rfl (by omega) (by omega) (by omega)
    go_still_tail 20, (by kernel_rfl)
    change wpList _ _ _ _ _ w3.drew
    clear hwr hsl
    go_wp2_with fail
    refine (bare_on B g s x l c ts 3 (s.extract x (x + n)) false n false w _ H.out hts HB.out (by omega) _ (by omega) (below_drew_any HB3.out)).mono ?_
    rintro e w5 ⟨rfl, hA⟩
    have HA := Aside0.mk hA
    clear hA
    go_wp2
    go_ret
    rw [HE.out]
    exact ⟨rfl, HA.out⟩
theorem numerals_reads : ReadsAs 49 numeralsR 4 := by
  intro B g s x l c ts w h hts hb hx hcls
  unfold numeralsR numOk
  by_cases hn1 : runN digitB s x = 1
  · rw [decide_eq_true hn1, Bool.true_or]
    exact numerals_one B g s x l c ts w h hts hb hx hn1
  · rw [decide_eq_false hn1, Bool.false_or]
    cases h48 : (bt s x != 48) with
    | true => exact numerals_many B g s x l c ts w h hts hb hx hn1 h48
    | false => exact numerals_zero B g s x l c ts w h hts hb hx hn1 h48
end Go.Proofs.YthklnopfgoekeaaDoor.X
