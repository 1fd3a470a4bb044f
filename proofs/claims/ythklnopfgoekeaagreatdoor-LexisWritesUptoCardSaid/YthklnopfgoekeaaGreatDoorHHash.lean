/- Texts of one kind, joined by wip/merge.py: HNum, HHash, HQuote, HMap. -/
import Derived.Test.YthklnopfgoekeaaGreatDoorHBars
import Derived.Test.YthklnopfgoekeaaGreatDoorShelf
import Derived.Deep.RegionWith
namespace Go.Proofs.YthklnopfgoekeaaGreatDoor.X
section
open Go.RowKit Go.Proofs.YthklnopfgoekeaaGreatDoorW.PrintWords Go.Proofs.YthklnopfgoekeaaGreatDoorW.PrintLast Go.Proofs.YthklnopfgoekeaaGreatDoorW.PrintMore
set_option linter.unusedVariables false

def numOk (s : ByteArray) (x n : Nat) : Bool := decide (n = 1) || bt s x != 48
def numR (s : ByteArray) (x n : Nat) (ok : Bool) : Rd :=
  if x + n < s.size ∧ bt s ((x : Int) + n) = 46 then
    bareR s x 4 (s.extract x (x + (n + (1 + runN digitB s (x + n + 1))))) false (n + (1 + runN digitB s (x + n + 1))) (ok && decide (0 < runN digitB s (x + n + 1)))
  else bareR s x 3 (s.extract x (x + n)) false n ok
def numeralsR (s : ByteArray) (x : Nat) : Rd := numR s x (runN digitB s x) (numOk s x (runN digitB s x))
set_option maxHeartbeats 8000000 in
set_option maxRecDepth 100000 in
theorem numerals_one (B g : Nat) (s : ByteArray) (x : Nat) (l c : Int) (ts : List S37) (w : World) (h : Sc B g s x l c ts w) (hts : ts.length ≤ x) (hb : Nb s x l c) (hx : x < s.size)
    (hn1 : runN digitB s x = 1) :
    Calls Tryz.prog 66 #[.pointer (some ⟨g, 0, none⟩)] w fun e w' => e = .returned (.int .i64 (numR s x (runN digitB s x) true).err) ∧ After B g s x l c ts (numR s x (runN digitB s x) true) w w' := by
  have H := Aside0.mk h
  have HB := Aside0.mk hb
  have hs := hb.size
  obtain ⟨h1, h2, v, hC, hR⟩ := h
  have hc1 := hC.c1
  have HC := Aside0.mk hC
  have hle := runN_le digitB s x (by omega)
  obtain ⟨n, hn⟩ : ∃ n, n = runN digitB s x := ⟨_, rfl⟩
  rw [← hn] at hn1 hle ⊢
  have HN := Aside0.mk hn
  have HYP0 := Aside0.mk hn1
  clear hC hR hb hn hn1
  go_enter Tryz.func66, Tryz.ntmps66
  go_wp2_with fail
  refine (run_digit g s x (by omega) hs w HC.out.c0).mono ?_
  rintro e w1 ⟨rfl, hb1⟩
  rw [← HN.out]
  have HC1 := Aside0.mk (HC.out.below hb1)
  have HB1 := Aside0.mk hb1
  have hd0 := HC1.out.c0
  have hd1 := HC1.out.c1
  clear hb1
  have hix := index_str s (x : Int) x rfl hx
  have hg1 : ((n : Int) == 1) = true := by rw [HYP0.out]; rfl
  go_wp2
  go_quiet (fail)
  generalize hw2 : w1.drewN _ = w2
  have HC2 : Aside0 (Cells g s x l c v w2) := ⟨by rw [← hw2]; exact HC1.out.drewN _⟩
  have HB2 : Aside0 (Below w.heap.size w w2) := ⟨by rw [← hw2]; exact pw_below_drewN HB1.out _⟩
  clear hw2 hd0 hd1 hix hg1
  have hd0 := HC2.out.c0
  have hd1 := HC2.out.c1
  have hwr := wrap_in ((x : Int) + n) (by omega) (by omega)
  by_cases hin : x + n < s.size
  · have hg : decide ((x : Int) + n < (s.size : Int)) = true := decide_eq_true (by omega)
    have hix := index_str s ((x : Int) + n) (x + n) (by omega) hin
    by_cases h46 : (bt s ((x : Int) + n) == 46) = true
    · have hle2 := runN_le digitB s (x + n + 1) (by omega)
      obtain ⟨k, hk⟩ : ∃ k, k = runN digitB s (x + n + 1) := ⟨_, rfl⟩
      have HE : Aside0 (numR s x n true = bareR s x 4 (s.extract x (x + (n + (1 + k)))) false (n + (1 + k)) (true && decide (0 < k))) := ⟨by unfold numR; rw [if_pos ⟨hin, by simpa using h46⟩, hk]⟩
      rw [← hk] at hle2
      have HK := Aside0.mk hk
      clear hk
      go_wp2
      go_quiet (fail)
      generalize hw3 : w2.drewN _ = w3
      have HC3 : Aside0 (Cells g s x l c v w3) := ⟨by rw [← hw3]; exact HC2.out.drewN _⟩
      have HB3 : Aside0 (Below w.heap.size w w3) := ⟨by rw [← hw3]; exact pw_below_drewN HB2.out _⟩
      clear hw3 hd0 hd1 hix hg h46
      have hd0 := HC3.out.c0
      have hd1 := HC3.out.c1
      go_wp2_with fail
      have hrun := run_digit g s (x + n + 1) (by omega) hs w3 HC3.out.c0
      rw [show ((x + n + 1 : Nat) : Int) = (x : Int) + n + 1 from by omega] at hrun
      refine hrun.mono ?_
      clear hrun
      rintro e w4 ⟨rfl, hb4⟩
      rw [← HK.out]
      have HC4 := Aside0.mk (HC3.out.below hb4)
      have HB4 : Aside0 (Below w.heap.size w w4) := ⟨below_then HB3.out HB3.out.size hb4⟩
      clear hb4 hd0 hd1
      have hd0 := HC4.out.c0
      have hd1 := HC4.out.c1
      go_wp2
      have hwr2 := wrap_in ((x : Int) + ((n : Int) + (1 + k))) (by omega) (by omega)
      have hsl := slice_str s (x : Int) ((x : Int) + ((n : Int) + (1 + k))) x (x + (n + (1 + k))) rfl (by omega) (by omega) (by omega)
      go_still_tail 20, (by kernel_rfl)
      change wpList _ _ _ _ _ w4.drew
      clear hwr hwr2 hsl
      go_wp2_with fail
      refine (bare_on B g s x l c ts 4 (s.extract x (x + (n + (1 + k)))) false (n + (1 + k)) _ w _ H.out hts HB.out (by omega) _ (by omega) (below_drew_any HB4.out)).mono ?_
      rintro e w5 ⟨rfl, hA⟩
      have HA := Aside0.mk hA
      clear hA
      go_wp2
      go_ret
      rw [HE.out]
      exact ⟨rfl, HA.out⟩
    · replace h46 := Bool.eq_false_iff.mpr h46
      have HE : Aside0 (numR s x n true = bareR s x 3 (s.extract x (x + n)) false n true) := ⟨by unfold numR; rw [if_neg (fun h => by simp [h.2] at h46)]⟩
      go_wp2
      go_quiet (fail)
      generalize hw3 : w2.drewN _ = w3
      have HC3 : Aside0 (Cells g s x l c v w3) := ⟨by rw [← hw3]; exact HC2.out.drewN _⟩
      have HB3 : Aside0 (Below w.heap.size w w3) := ⟨by rw [← hw3]; exact pw_below_drewN HB2.out _⟩
      clear hw3 hd0 hd1 hix hg h46
      have hd0 := HC3.out.c0
      have hd1 := HC3.out.c1
      go_wp2
      have hsl := slice_str s (x : Int) ((x : Int) + n) x (x + n) rfl (by omega) (by omega) (by omega)
      go_still_tail 20, (by kernel_rfl)
      change wpList _ _ _ _ _ w3.drew
      clear hwr hsl
      go_wp2_with fail
      refine (bare_on B g s x l c ts 3 (s.extract x (x + n)) false n true w _ H.out hts HB.out (by omega) _ (by omega) (below_drew_any HB3.out)).mono ?_
      rintro e w5 ⟨rfl, hA⟩
      have HA := Aside0.mk hA
      clear hA
      go_wp2
      go_ret
      rw [HE.out]
      exact ⟨rfl, HA.out⟩
  · have hg : decide ((x : Int) + n < (s.size : Int)) = false := decide_eq_false (by omega)
    have HE : Aside0 (numR s x n true = bareR s x 3 (s.extract x (x + n)) false n true) := ⟨by unfold numR; rw [if_neg (fun h => hin h.1)]⟩
    go_wp2
    go_quiet (fail)
    generalize hw3 : w2.drewN _ = w3
    have HC3 : Aside0 (Cells g s x l c v w3) := ⟨by rw [← hw3]; exact HC2.out.drewN _⟩
    have HB3 : Aside0 (Below w.heap.size w w3) := ⟨by rw [← hw3]; exact pw_below_drewN HB2.out _⟩
    clear hw3 hd0 hd1 hg
    have hd0 := HC3.out.c0
    have hd1 := HC3.out.c1
    go_wp2
    have hsl := slice_str s (x : Int) ((x : Int) + n) x (x + n) rfl (by omega) (by omega) (by omega)
    go_still_tail 20, (by kernel_rfl)
    change wpList _ _ _ _ _ w3.drew
    clear hwr hsl
    go_wp2_with fail
    refine (bare_on B g s x l c ts 3 (s.extract x (x + n)) false n true w _ H.out hts HB.out (by omega) _ (by omega) (below_drew_any HB3.out)).mono ?_
    rintro e w5 ⟨rfl, hA⟩
    have HA := Aside0.mk hA
    clear hA
    go_wp2
    go_ret
    rw [HE.out]
    exact ⟨rfl, HA.out⟩
set_option maxHeartbeats 8000000 in
set_option maxRecDepth 100000 in
theorem numerals_many (B g : Nat) (s : ByteArray) (x : Nat) (l c : Int) (ts : List S37) (w : World) (h : Sc B g s x l c ts w) (hts : ts.length ≤ x) (hb : Nb s x l c) (hx : x < s.size)
    (hn1 : runN digitB s x ≠ 1) (h48 : (bt s x != 48) = true) :
    Calls Tryz.prog 66 #[.pointer (some ⟨g, 0, none⟩)] w fun e w' => e = .returned (.int .i64 (numR s x (runN digitB s x) true).err) ∧ After B g s x l c ts (numR s x (runN digitB s x) true) w w' := by
  have H := Aside0.mk h
  have HB := Aside0.mk hb
  have hs := hb.size
  obtain ⟨h1, h2, v, hC, hR⟩ := h
  have hc1 := hC.c1
  have HC := Aside0.mk hC
  have hle := runN_le digitB s x (by omega)
  obtain ⟨n, hn⟩ : ∃ n, n = runN digitB s x := ⟨_, rfl⟩
  rw [← hn] at hn1 hle ⊢
  have HN := Aside0.mk hn
  have HYP0 := Aside0.mk hn1
  clear hC hR hb hn hn1
  go_enter Tryz.func66, Tryz.ntmps66
  go_wp2_with fail
  refine (run_digit g s x (by omega) hs w HC.out.c0).mono ?_
  rintro e w1 ⟨rfl, hb1⟩
  rw [← HN.out]
  have HC1 := Aside0.mk (HC.out.below hb1)
  have HB1 := Aside0.mk hb1
  have hd0 := HC1.out.c0
  have hd1 := HC1.out.c1
  clear hb1
  have hix := index_str s (x : Int) x rfl hx
  have hg1 : ((n : Int) == 1) = false := by rw [beq_eq_false_iff_ne]; have := HYP0.out; omega
  go_wp2
  go_quiet (fail)
  generalize hw2 : w1.drewN _ = w2
  have HC2 : Aside0 (Cells g s x l c v w2) := ⟨by rw [← hw2]; exact HC1.out.drewN _⟩
  have HB2 : Aside0 (Below w.heap.size w w2) := ⟨by rw [← hw2]; exact pw_below_drewN HB1.out _⟩
  clear hw2 hd0 hd1 hix hg1 h48
  have hd0 := HC2.out.c0
  have hd1 := HC2.out.c1
  have hwr := wrap_in ((x : Int) + n) (by omega) (by omega)
  by_cases hin : x + n < s.size
  · have hg : decide ((x : Int) + n < (s.size : Int)) = true := decide_eq_true (by omega)
    have hix := index_str s ((x : Int) + n) (x + n) (by omega) hin
    by_cases h46 : (bt s ((x : Int) + n) == 46) = true
    · have hle2 := runN_le digitB s (x + n + 1) (by omega)
      obtain ⟨k, hk⟩ : ∃ k, k = runN digitB s (x + n + 1) := ⟨_, rfl⟩
      have HE : Aside0 (numR s x n true = bareR s x 4 (s.extract x (x + (n + (1 + k)))) false (n + (1 + k)) (true && decide (0 < k))) := ⟨by unfold numR; rw [if_pos ⟨hin, by simpa using h46⟩, hk]⟩
      rw [← hk] at hle2
      have HK := Aside0.mk hk
      clear hk
      go_wp2
      go_quiet (fail)
      generalize hw3 : w2.drewN _ = w3
      have HC3 : Aside0 (Cells g s x l c v w3) := ⟨by rw [← hw3]; exact HC2.out.drewN _⟩
      have HB3 : Aside0 (Below w.heap.size w w3) := ⟨by rw [← hw3]; exact pw_below_drewN HB2.out _⟩
      clear hw3 hd0 hd1 hix hg h46
      have hd0 := HC3.out.c0
      have hd1 := HC3.out.c1
      go_wp2_with fail
      have hrun := run_digit g s (x + n + 1) (by omega) hs w3 HC3.out.c0
      rw [show ((x + n + 1 : Nat) : Int) = (x : Int) + n + 1 from by omega] at hrun
      refine hrun.mono ?_
      clear hrun
      rintro e w4 ⟨rfl, hb4⟩
      rw [← HK.out]
      have HC4 := Aside0.mk (HC3.out.below hb4)
      have HB4 : Aside0 (Below w.heap.size w w4) := ⟨below_then HB3.out HB3.out.size hb4⟩
      clear hb4 hd0 hd1
      have hd0 := HC4.out.c0
      have hd1 := HC4.out.c1
      go_wp2
      have hwr2 := wrap_in ((x : Int) + ((n : Int) + (1 + k))) (by omega) (by omega)
      have hsl := slice_str s (x : Int) ((x : Int) + ((n : Int) + (1 + k))) x (x + (n + (1 + k))) rfl (by omega) (by omega) (by omega)
      go_still_tail 20, (by kernel_rfl)
      change wpList _ _ _ _ _ w4.drew
      clear hwr hwr2 hsl
      go_wp2_with fail
      refine (bare_on B g s x l c ts 4 (s.extract x (x + (n + (1 + k)))) false (n + (1 + k)) _ w _ H.out hts HB.out (by omega) _ (by omega) (below_drew_any HB4.out)).mono ?_
      rintro e w5 ⟨rfl, hA⟩
      have HA := Aside0.mk hA
      clear hA
      go_wp2
      go_ret
      rw [HE.out]
      exact ⟨rfl, HA.out⟩
    · replace h46 := Bool.eq_false_iff.mpr h46
      have HE : Aside0 (numR s x n true = bareR s x 3 (s.extract x (x + n)) false n true) := ⟨by unfold numR; rw [if_neg (fun h => by simp [h.2] at h46)]⟩
      go_wp2
      go_quiet (fail)
      generalize hw3 : w2.drewN _ = w3
      have HC3 : Aside0 (Cells g s x l c v w3) := ⟨by rw [← hw3]; exact HC2.out.drewN _⟩
      have HB3 : Aside0 (Below w.heap.size w w3) := ⟨by rw [← hw3]; exact pw_below_drewN HB2.out _⟩
      clear hw3 hd0 hd1 hix hg h46
      have hd0 := HC3.out.c0
      have hd1 := HC3.out.c1
      go_wp2
      have hsl := slice_str s (x : Int) ((x : Int) + n) x (x + n) rfl (by omega) (by omega) (by omega)
      go_still_tail 20, (by kernel_rfl)
      change wpList _ _ _ _ _ w3.drew
      clear hwr hsl
      go_wp2_with fail
      refine (bare_on B g s x l c ts 3 (s.extract x (x + n)) false n true w _ H.out hts HB.out (by omega) _ (by omega) (below_drew_any HB3.out)).mono ?_
      rintro e w5 ⟨rfl, hA⟩
      have HA := Aside0.mk hA
      clear hA
      go_wp2
      go_ret
      rw [HE.out]
      exact ⟨rfl, HA.out⟩
  · have hg : decide ((x : Int) + n < (s.size : Int)) = false := decide_eq_false (by omega)
    have HE : Aside0 (numR s x n true = bareR s x 3 (s.extract x (x + n)) false n true) := ⟨by unfold numR; rw [if_neg (fun h => hin h.1)]⟩
    go_wp2
    go_quiet (fail)
    generalize hw3 : w2.drewN _ = w3
    have HC3 : Aside0 (Cells g s x l c v w3) := ⟨by rw [← hw3]; exact HC2.out.drewN _⟩
    have HB3 : Aside0 (Below w.heap.size w w3) := ⟨by rw [← hw3]; exact pw_below_drewN HB2.out _⟩
    clear hw3 hd0 hd1 hg
    have hd0 := HC3.out.c0
    have hd1 := HC3.out.c1
    go_wp2
    have hsl := slice_str s (x : Int) ((x : Int) + n) x (x + n) rfl (by omega) (by omega) (by omega)
    go_still_tail 20, (by kernel_rfl)
    change wpList _ _ _ _ _ w3.drew
    clear hwr hsl
    go_wp2_with fail
    refine (bare_on B g s x l c ts 3 (s.extract x (x + n)) false n true w _ H.out hts HB.out (by omega) _ (by omega) (below_drew_any HB3.out)).mono ?_
    rintro e w5 ⟨rfl, hA⟩
    have HA := Aside0.mk hA
    clear hA
    go_wp2
    go_ret
    rw [HE.out]
    exact ⟨rfl, HA.out⟩
set_option maxHeartbeats 8000000 in
set_option maxRecDepth 100000 in
theorem numerals_zero (B g : Nat) (s : ByteArray) (x : Nat) (l c : Int) (ts : List S37) (w : World) (h : Sc B g s x l c ts w) (hts : ts.length ≤ x) (hb : Nb s x l c) (hx : x < s.size)
    (hn1 : runN digitB s x ≠ 1) (h48 : (bt s x != 48) = false) :
    Calls Tryz.prog 66 #[.pointer (some ⟨g, 0, none⟩)] w fun e w' => e = .returned (.int .i64 (numR s x (runN digitB s x) false).err) ∧ After B g s x l c ts (numR s x (runN digitB s x) false) w w' := by
  have H := Aside0.mk h
  have HB := Aside0.mk hb
  have hs := hb.size
  obtain ⟨h1, h2, v, hC, hR⟩ := h
  have hc1 := hC.c1
  have HC := Aside0.mk hC
  have hle := runN_le digitB s x (by omega)
  obtain ⟨n, hn⟩ : ∃ n, n = runN digitB s x := ⟨_, rfl⟩
  rw [← hn] at hn1 hle ⊢
  have HN := Aside0.mk hn
  have HYP0 := Aside0.mk hn1
  clear hC hR hb hn hn1
  go_enter Tryz.func66, Tryz.ntmps66
  go_wp2_with fail
  refine (run_digit g s x (by omega) hs w HC.out.c0).mono ?_
  rintro e w1 ⟨rfl, hb1⟩
  rw [← HN.out]
  have HC1 := Aside0.mk (HC.out.below hb1)
  have HB1 := Aside0.mk hb1
  have hd0 := HC1.out.c0
  have hd1 := HC1.out.c1
  clear hb1
  have hix := index_str s (x : Int) x rfl hx
  have hg1 : ((n : Int) == 1) = false := by rw [beq_eq_false_iff_ne]; have := HYP0.out; omega
  go_wp2
  go_quiet (fail)
  generalize hw2 : w1.drewN _ = w2
  have HC2 : Aside0 (Cells g s x l c v w2) := ⟨by rw [← hw2]; exact HC1.out.drewN _⟩
  have HB2 : Aside0 (Below w.heap.size w w2) := ⟨by rw [← hw2]; exact pw_below_drewN HB1.out _⟩
  clear hw2 hd0 hd1 hix hg1 h48
  have hd0 := HC2.out.c0
  have hd1 := HC2.out.c1
  have hwr := wrap_in ((x : Int) + n) (by omega) (by omega)
  by_cases hin : x + n < s.size
  · have hg : decide ((x : Int) + n < (s.size : Int)) = true := decide_eq_true (by omega)
    have hix := index_str s ((x : Int) + n) (x + n) (by omega) hin
    by_cases h46 : (bt s ((x : Int) + n) == 46) = true
    · have hle2 := runN_le digitB s (x + n + 1) (by omega)
      obtain ⟨k, hk⟩ : ∃ k, k = runN digitB s (x + n + 1) := ⟨_, rfl⟩
      have HE : Aside0 (numR s x n false = bareR s x 4 (s.extract x (x + (n + (1 + k)))) false (n + (1 + k)) (false && decide (0 < k))) := ⟨by unfold numR; rw [if_pos ⟨hin, by simpa using h46⟩, hk]⟩
      rw [← hk] at hle2
      have HK := Aside0.mk hk
      clear hk
      go_wp2
      go_quiet (fail)
      generalize hw3 : w2.drewN _ = w3
      have HC3 : Aside0 (Cells g s x l c v w3) := ⟨by rw [← hw3]; exact HC2.out.drewN _⟩
      have HB3 : Aside0 (Below w.heap.size w w3) := ⟨by rw [← hw3]; exact pw_below_drewN HB2.out _⟩
      clear hw3 hd0 hd1 hix hg h46
      have hd0 := HC3.out.c0
      have hd1 := HC3.out.c1
      go_wp2_with fail
      have hrun := run_digit g s (x + n + 1) (by omega) hs w3 HC3.out.c0
      rw [show ((x + n + 1 : Nat) : Int) = (x : Int) + n + 1 from by omega] at hrun
      refine hrun.mono ?_
      clear hrun
      rintro e w4 ⟨rfl, hb4⟩
      rw [← HK.out]
      have HC4 := Aside0.mk (HC3.out.below hb4)
      have HB4 : Aside0 (Below w.heap.size w w4) := ⟨below_then HB3.out HB3.out.size hb4⟩
      clear hb4 hd0 hd1
      have hd0 := HC4.out.c0
      have hd1 := HC4.out.c1
      go_wp2
      have hwr2 := wrap_in ((x : Int) + ((n : Int) + (1 + k))) (by omega) (by omega)
      have hsl := slice_str s (x : Int) ((x : Int) + ((n : Int) + (1 + k))) x (x + (n + (1 + k))) rfl (by omega) (by omega) (by omega)
      go_still_tail 20, (by kernel_rfl)
      change wpList _ _ _ _ _ w4.drew
      clear hwr hwr2 hsl
      go_wp2_with fail
      refine (bare_on B g s x l c ts 4 (s.extract x (x + (n + (1 + k)))) false (n + (1 + k)) _ w _ H.out hts HB.out (by omega) _ (by omega) (below_drew_any HB4.out)).mono ?_
      rintro e w5 ⟨rfl, hA⟩
      have HA := Aside0.mk hA
      clear hA
      go_wp2
      go_ret
      rw [HE.out]
      exact ⟨rfl, HA.out⟩
    · replace h46 := Bool.eq_false_iff.mpr h46
      have HE : Aside0 (numR s x n false = bareR s x 3 (s.extract x (x + n)) false n false) := ⟨by unfold numR; rw [if_neg (fun h => by simp [h.2] at h46)]⟩
      go_wp2
      go_quiet (fail)
      generalize hw3 : w2.drewN _ = w3
      have HC3 : Aside0 (Cells g s x l c v w3) := ⟨by rw [← hw3]; exact HC2.out.drewN _⟩
      have HB3 : Aside0 (Below w.heap.size w w3) := ⟨by rw [← hw3]; exact pw_below_drewN HB2.out _⟩
      clear hw3 hd0 hd1 hix hg h46
      have hd0 := HC3.out.c0
      have hd1 := HC3.out.c1
      go_wp2
      have hsl := slice_str s (x : Int) ((x : Int) + n) x (x + n) rfl (by omega) (by omega) (by omega)
      go_still_tail 20, (by kernel_rfl)
      change wpList _ _ _ _ _ w3.drew
      clear hwr hsl
      go_wp2_with fail
      refine (bare_on B g s x l c ts 3 (s.extract x (x + n)) false n false w _ H.out hts HB.out (by omega) _ (by omega) (below_drew_any HB3.out)).mono ?_
      rintro e w5 ⟨rfl, hA⟩
      have HA := Aside0.mk hA
      clear hA
      go_wp2
      go_ret
      rw [HE.out]
      exact ⟨rfl, HA.out⟩
  · have hg : decide ((x : Int) + n < (s.size : Int)) = false := decide_eq_false (by omega)
    have HE : Aside0 (numR s x n false = bareR s x 3 (s.extract x (x + n)) false n false) := ⟨by unfold numR; rw [if_neg (fun h => hin h.1)]⟩
    go_wp2
    go_quiet (fail)
    generalize hw3 : w2.drewN _ = w3
    have HC3 : Aside0 (Cells g s x l c v w3) := ⟨by rw [← hw3]; exact HC2.out.drewN _⟩
    have HB3 : Aside0 (Below w.heap.size w w3) := ⟨by rw [← hw3]; exact pw_below_drewN HB2.out _⟩
    clear hw3 hd0 hd1 hg
    have hd0 := HC3.out.c0
    have hd1 := HC3.out.c1
    go_wp2
    have hsl := slice_str s (x : Int) ((x : Int) + n) x (x + n) rfl (by omega) (by omega) (by omega)
    go_still_tail 20, (by kernel_rfl)
    change wpList _ _ _ _ _ w3.drew
    clear hwr hsl
    go_wp2_with fail
    refine (bare_on B g s x l c ts 3 (s.extract x (x + n)) false n false w _ H.out hts HB.out (by omega) _ (by omega) (below_drew_any HB3.out)).mono ?_
    rintro e w5 ⟨rfl, hA⟩
    have HA := Aside0.mk hA
    clear hA
    go_wp2
    go_ret
    rw [HE.out]
    exact ⟨rfl, HA.out⟩
theorem numerals_reads : ReadsAs 66 numeralsR 4 := by
  intro B g s x l c ts w h hts hb hx hcls
  unfold numeralsR numOk
  by_cases hn1 : runN digitB s x = 1
  · rw [decide_eq_true hn1, Bool.true_or]
    exact numerals_one B g s x l c ts w h hts hb hx hn1
  · rw [decide_eq_false hn1, Bool.false_or]
    cases h48 : (bt s x != 48) with
    | true => exact numerals_many B g s x l c ts w h hts hb hx hn1 h48
    | false => exact numerals_zero B g s x l c ts w h hts hb hx hn1 h48
end
section
open Go.RowKit Go.Proofs.YthklnopfgoekeaaGreatDoorW.PrintWords Go.Proofs.YthklnopfgoekeaaGreatDoorW.PrintLast Go.Proofs.YthklnopfgoekeaaGreatDoorW.PrintMore
set_option linter.unusedVariables false

def lowS (t : ByteArray) : ByteArray := ⟨(Lib.toLowerA t.data.toList).toArray⟩
theorem lower_calls (t : ByteArray) (w : World) (hs : t.size ≤ 140737488355328) (hasc : ∀ (j : Nat) (b : UInt8), t.data.toList[j]? = some b → b.toNat < 128) :
    Calls Tryz.prog 94 #[.string t] w fun e w' => e = .returned (.string (lowS t)) ∧ Below w.heap.size w w' := Tryz.strings_ToLower_ascii t w hs hasc
theorem keep2 {g : Nat} {s : ByteArray} {x l c : Int} {v : Value} {w w' : World} (h : Cells g s x l c v w) (hb : Below w.heap.size w w') : w'.cell? ⟨g, 0, none⟩ = some (.string s) ∧ w'.cell? ⟨g, 1, none⟩ = some (.int .i64 x) := ⟨(h.below hb).c0, (h.below hb).c1⟩
def hashK (s : ByteArray) (x : Nat) (k : Int) (n : Nat) : Rd := bareR s x k (lowS (s.extract (x + 2) (x + 2 + n))) false (n + 2) (decide (0 < n))
def hashesR (s : ByteArray) (x : Nat) : Rd :=
  if x + 1 < s.size then
    if bt s ((x : Int) + 1) = 120 then hashK s x 5 (runN hexB s (x + 2))
    else if bt s ((x : Int) + 1) = 98 then hashK s x 6 (runN binB s (x + 2))
    else ⟨62, none, 0⟩
  else ⟨62, none, 0⟩
theorem runK_all (p : Int → Bool) (s : ByteArray) : ∀ (d y j : Nat), j < runK p s y d → p (bt s ((y : Int) + (j : Nat))) = true
  | 0, _, _, h => by simp [runK] at h
  | d + 1, y, j, h => by
    rw [runK] at h
    split at h
    · rename_i hp
      cases j with
      | zero => simpa using hp
      | succ j =>
        have := runK_all p s d (y + 1) j (by omega)
        have e : (y : Int) + ((j + 1 : Nat) : Int) = ((y + 1 : Nat) : Int) + (j : Nat) := by omega
        rw [e]; exact this
    · omega
theorem runN_all {p : Int → Bool} {s : ByteArray} {y j : Nat} (h : j < runN p s y) : p (bt s ((y : Int) + (j : Nat))) = true := runK_all p s _ y j h
theorem bt_data (s : ByteArray) (i : Nat) (b : UInt8) (h : s.data.toList[i]? = some b) : bt s i = b.toNat := by
  obtain ⟨h1, h2⟩ := List.getElem?_eq_some_iff.1 h
  have h1' : i < s.size := by simpa using h1
  rw [← bt_nat s i h1']
  have : s[i]'h1' = b := by rw [← h2]; rfl
  rw [this]
theorem extract_at (s : ByteArray) (a n j : Nat) (b : UInt8) (h : (s.extract a (a + n)).data.toList[j]? = some b) : j < n ∧ bt s ((a : Int) + (j : Nat)) = b.toNat := by
  have e : (s.extract a (a + n)).data.toList = (s.data.toList.drop a).take n := by
    rw [ByteArray.data_extract]
    simp [Array.toList_extract]
  rw [e] at h
  obtain ⟨h1, _⟩ := List.getElem?_eq_some_iff.1 h
  have hj : j < n := by rw [List.length_take] at h1; omega
  refine ⟨hj, ?_⟩
  rw [List.getElem?_take_of_lt hj, List.getElem?_drop] at h
  have := bt_data s (a + j) b h
  rw [← this]
  congr 1
theorem bits_or_big (c : Nat) (h : 128 ≤ c) (h2 : c ≤ 255) : 122 < bits .or .u8 (c : Int) 32 := by
  obtain ⟨k, hk, rfl⟩ : ∃ k, k < 128 ∧ c = 128 + k := ⟨c - 128, by omega, by omega⟩
  revert k
  decide
theorem ascii_run {p : Int → Bool} (hp : ∀ c : Nat, 128 ≤ c → c ≤ 255 → p c = false) (s : ByteArray) (x : Nat) : ∀ (j : Nat) (b : UInt8), (s.extract (x + 2) (x + 2 + runN p s (x + 2))).data.toList[j]? = some b → b.toNat < 128 := by
  intro j b h
  obtain ⟨h1, h2⟩ := extract_at s (x + 2) _ j b h
  have h3 := runN_all h1
  rw [h2] at h3
  rcases Nat.lt_or_ge b.toNat 128 with h4 | h4
  · exact h4
  · have := b.toNat_lt
    rw [hp _ h4 (by omega)] at h3
    cases h3
theorem hex_ascii (c : Nat) (h : 128 ≤ c) (h2 : c ≤ 255) : hexB c = false := by
  unfold hexB digitB
  have := bits_or_big c h h2
  rw [decide_eq_false (show ¬ ((c : Int) ≤ 57) by omega), decide_eq_false (show ¬ (bits .or .u8 (c : Int) 32 ≤ 102) by omega)]
  simp
theorem bin_ascii (c : Nat) (h : 128 ≤ c) (h2 : c ≤ 255) : binB c = false := by
  unfold binB
  rw [beq_eq_false_iff_ne.2 (show (c : Int) ≠ 48 by omega), beq_eq_false_iff_ne.2 (show (c : Int) ≠ 49 by omega)]
  rfl
set_option maxHeartbeats 8000000 in
set_option maxRecDepth 100000 in
theorem hashes_end (B g : Nat) (s : ByteArray) (x : Nat) (l c : Int) (ts : List S37) (w : World) (h : Sc B g s x l c ts w) (hb : Nb s x l c) (hx : x < s.size) (hx2 : ¬ x + 1 < s.size) :
    Calls Tryz.prog 67 #[.pointer (some ⟨g, 0, none⟩)] w fun e w' => e = .returned (.int .i64 62) ∧ After B g s x l c ts ⟨62, none, 0⟩ w w' := by
  have H := Aside0.mk h
  have hs := hb.size
  obtain ⟨h1, h2, v, hC, hR⟩ := h
  have hc0 := hC.c0
  have hc1 := hC.c1
  clear hC hR hb
  have hwr := wrap_in ((x : Int) + 1) (by omega) (by omega)
  have hg : decide ((s.size : Int) ≤ (x : Int) + 1) = true := decide_eq_true (by omega)
  go_enter Tryz.func67, Tryz.ntmps67
  go_wp2
  go_quiet (fail)
  go_wp2
  go_ret
  exact ⟨rfl, After.stay H.out (pw_below_drewN (Below.refl _ _) _) _⟩
set_option maxHeartbeats 8000000 in
set_option maxRecDepth 100000 in
theorem hashes_none (B g : Nat) (s : ByteArray) (x : Nat) (l c : Int) (ts : List S37) (w : World) (h : Sc B g s x l c ts w) (hb : Nb s x l c) (hx : x + 1 < s.size) (h120 : (bt s ((x : Int) + 1) == 120) = false) (h98 : (bt s ((x : Int) + 1) == 98) = false) :
    Calls Tryz.prog 67 #[.pointer (some ⟨g, 0, none⟩)] w fun e w' => e = .returned (.int .i64 62) ∧ After B g s x l c ts ⟨62, none, 0⟩ w w' := by
  have H := Aside0.mk h
  have hs := hb.size
  obtain ⟨h1, h2, v, hC, hR⟩ := h
  have hc0 := hC.c0
  have hc1 := hC.c1
  clear hC hR hb
  have hwr := wrap_in ((x : Int) + 1) (by omega) (by omega)
  have hg : decide ((s.size : Int) ≤ (x : Int) + 1) = false := decide_eq_false (by omega)
  have hix := index_str s ((x : Int) + 1) (x + 1) (by omega) hx
  go_enter Tryz.func67, Tryz.ntmps67
  go_wp2
  go_quiet (fail)
  go_wp2
  go_quiet (fail)
  go_wp2
  go_ret
  exact ⟨rfl, After.stay H.out (pw_below_drewN (Below.refl _ _) _) _⟩
set_option maxHeartbeats 8000000 in
set_option maxRecDepth 100000 in
theorem hashes_hex (B g : Nat) (s : ByteArray) (x : Nat) (l c : Int) (ts : List S37) (w : World) (h : Sc B g s x l c ts w) (hts : ts.length ≤ x) (hb : Nb s x l c) (hx : x + 1 < s.size) (h120 : (bt s ((x : Int) + 1) == 120) = true) (hasc : ∀ (j : Nat) (b : UInt8), (s.extract (x + 2) (x + 2 + runN hexB s (x + 2))).data.toList[j]? = some b → b.toNat < 128) :
    Calls Tryz.prog 67 #[.pointer (some ⟨g, 0, none⟩)] w fun e w' => e = .returned (.int .i64 (hashK s x 5 (runN hexB s (x + 2))).err) ∧ After B g s x l c ts (hashK s x 5 (runN hexB s (x + 2))) w w' := by
  have H := Aside0.mk h
  have HB := Aside0.mk hb
  have hs := hb.size
  obtain ⟨h1, h2, v, hC, hR⟩ := h
  have hc0 := hC.c0
  have hc1 := hC.c1
  have HC := Aside0.mk hC
  have hle := runN_le hexB s (x + 2) (by omega)
  obtain ⟨n, hn⟩ : ∃ n, n = runN hexB s (x + 2) := ⟨_, rfl⟩
  rw [← hn] at hasc hle ⊢
  have HN := Aside0.mk hn
  have HA0 := Aside0.mk hasc
  clear hC hR hb hn hasc
  have hwr := wrap_in ((x : Int) + 1) (by omega) (by omega)
  have hg : decide ((s.size : Int) ≤ (x : Int) + 1) = false := decide_eq_false (by omega)
  have hix := index_str s ((x : Int) + 1) (x + 1) (by omega) hx
  go_enter Tryz.func67, Tryz.ntmps67
  go_wp2
  go_quiet (fail)
  go_wp2
  go_quiet (fail)
  generalize hw2 : (w.drewN _).drewN _ = w2
  have HC2 : Aside0 (Cells g s x l c v w2) := ⟨by rw [← hw2]; exact (HC.out.drewN _).drewN _⟩
  have HB2 : Aside0 (Below w.heap.size w w2) := ⟨by rw [← hw2]; exact pw_below_drewN (pw_below_drewN (Below.refl _ _) _) _⟩
  clear hw2 hc0 hc1 hg hix
  have hd0 := HC2.out.c0
  have hd1 := HC2.out.c1
  go_wp2_with fail
  have hrun := run_hex g s (x + 2) (by omega) hs w2 HC2.out.c0
  rw [show ((x + 2 : Nat) : Int) = (x : Int) + 2 from by omega] at hrun
  refine hrun.mono ?_
  clear hrun
  rintro e w4 ⟨rfl, hb4⟩
  rw [← HN.out]
  have HC4 := Aside0.mk (HC2.out.below hb4)
  have HB4 : Aside0 (Below w.heap.size w w4) := ⟨below_then HB2.out HB2.out.size hb4⟩
  clear hb4 hd0 hd1
  have hd0 := HC4.out.c0
  have hd1 := HC4.out.c1
  go_wp2
  have hwr1 := wrap_in ((x : Int) + 2) (by omega) (by omega)
  have hwr2 := wrap_in ((x : Int) + 2 + n) (by omega) (by omega)
  have hwr3 := wrap_in ((n : Int) + 2) (by omega) (by omega)
  have hsl := slice_str s ((x : Int) + 2) ((x : Int) + 2 + n) (x + 2) (x + 2 + n) (by omega) (by omega) (by omega) (by omega)
  have HSZ : Aside0 ((s.extract (x + 2) (x + 2 + n)).size ≤ 140737488355328) := ⟨by rw [ByteArray.size_extract]; omega⟩
  go_region_with (first | (go_at_call 94; refine (lower_calls _ _ HSZ.out HA0.out).mono ?_; rintro e w5 ⟨rfl, hb5⟩; have HB5 := Aside0.mk (below_then (below_drew_any HB4.out) HB4.out.size hb5); clear hb5) | (go_at_call 91; refine (bare_on B g s x l c ts 5 (lowS (s.extract (x + 2) (x + 2 + n))) false (n + 2) _ w _ H.out hts HB.out (by omega) _ (by omega) HB5.out).mono ?_; rintro e w6 ⟨rfl, hA⟩; have HA := Aside0.mk hA; clear hA))
  all_goals
    go_wp2
    go_ret
    exact ⟨rfl, HA.out⟩
set_option maxHeartbeats 8000000 in
set_option maxRecDepth 100000 in
theorem hashes_bin (B g : Nat) (s : ByteArray) (x : Nat) (l c : Int) (ts : List S37) (w : World) (h : Sc B g s x l c ts w) (hts : ts.length ≤ x) (hb : Nb s x l c) (hx : x + 1 < s.size) (h120 : (bt s ((x : Int) + 1) == 120) = false) (h98 : (bt s ((x : Int) + 1) == 98) = true) (hasc : ∀ (j : Nat) (b : UInt8), (s.extract (x + 2) (x + 2 + runN binB s (x + 2))).data.toList[j]? = some b → b.toNat < 128) :
    Calls Tryz.prog 67 #[.pointer (some ⟨g, 0, none⟩)] w fun e w' => e = .returned (.int .i64 (hashK s x 6 (runN binB s (x + 2))).err) ∧ After B g s x l c ts (hashK s x 6 (runN binB s (x + 2))) w w' := by
  have H := Aside0.mk h
  have HB := Aside0.mk hb
  have hs := hb.size
  obtain ⟨h1, h2, v, hC, hR⟩ := h
  have hc0 := hC.c0
  have hc1 := hC.c1
  have HC := Aside0.mk hC
  have hle := runN_le binB s (x + 2) (by omega)
  obtain ⟨n, hn⟩ : ∃ n, n = runN binB s (x + 2) := ⟨_, rfl⟩
  rw [← hn] at hasc hle ⊢
  have HN := Aside0.mk hn
  have HA0 := Aside0.mk hasc
  clear hC hR hb hn hasc
  have hwr := wrap_in ((x : Int) + 1) (by omega) (by omega)
  have hg : decide ((s.size : Int) ≤ (x : Int) + 1) = false := decide_eq_false (by omega)
  have hix := index_str s ((x : Int) + 1) (x + 1) (by omega) hx
  go_enter Tryz.func67, Tryz.ntmps67
  go_wp2
  go_quiet (fail)
  go_wp2
  go_quiet (fail)
  generalize hw2 : (w.drewN _).drewN _ = w2
  have HC2 : Aside0 (Cells g s x l c v w2) := ⟨by rw [← hw2]; exact (HC.out.drewN _).drewN _⟩
  have HB2 : Aside0 (Below w.heap.size w w2) := ⟨by rw [← hw2]; exact pw_below_drewN (pw_below_drewN (Below.refl _ _) _) _⟩
  clear hw2 hc0 hc1 hg hix
  have hd0 := HC2.out.c0
  have hd1 := HC2.out.c1
  go_wp2_with fail
  have hrun := run_bin g s (x + 2) (by omega) hs w2 HC2.out.c0
  rw [show ((x + 2 : Nat) : Int) = (x : Int) + 2 from by omega] at hrun
  refine hrun.mono ?_
  clear hrun
  rintro e w4 ⟨rfl, hb4⟩
  rw [← HN.out]
  have HC4 := Aside0.mk (HC2.out.below hb4)
  have HB4 : Aside0 (Below w.heap.size w w4) := ⟨below_then HB2.out HB2.out.size hb4⟩
  clear hb4 hd0 hd1
  have hd0 := HC4.out.c0
  have hd1 := HC4.out.c1
  go_wp2
  have hwr1 := wrap_in ((x : Int) + 2) (by omega) (by omega)
  have hwr2 := wrap_in ((x : Int) + 2 + n) (by omega) (by omega)
  have hwr3 := wrap_in ((n : Int) + 2) (by omega) (by omega)
  have hsl := slice_str s ((x : Int) + 2) ((x : Int) + 2 + n) (x + 2) (x + 2 + n) (by omega) (by omega) (by omega) (by omega)
  have HSZ : Aside0 ((s.extract (x + 2) (x + 2 + n)).size ≤ 140737488355328) := ⟨by rw [ByteArray.size_extract]; omega⟩
  go_region_with (first | (go_at_call 94; refine (lower_calls _ _ HSZ.out HA0.out).mono ?_; rintro e w5 ⟨rfl, hb5⟩; have HB5 := Aside0.mk (below_then (below_drew_any HB4.out) HB4.out.size hb5); clear hb5) | (go_at_call 91; refine (bare_on B g s x l c ts 6 (lowS (s.extract (x + 2) (x + 2 + n))) false (n + 2) _ w _ H.out hts HB.out (by omega) _ (by omega) HB5.out).mono ?_; rintro e w6 ⟨rfl, hA⟩; have HA := Aside0.mk hA; clear hA))
  all_goals
    go_wp2
    go_ret
    exact ⟨rfl, HA.out⟩
theorem hashes_reads : ReadsAs 67 hashesR 5 := by
  intro B g s x l c ts w h hts hb hx hcls
  unfold hashesR
  by_cases hx2 : x + 1 < s.size
  · rw [if_pos hx2]
    cases h120 : (bt s ((x : Int) + 1) == 120) with
    | true =>
      rw [if_pos (by simpa using h120)]
      exact hashes_hex B g s x l c ts w h hts hb hx2 h120 (ascii_run hex_ascii s x)
    | false =>
      rw [if_neg (by simpa using h120)]
      cases h98 : (bt s ((x : Int) + 1) == 98) with
      | true =>
        rw [if_pos (by simpa using h98)]
        exact hashes_bin B g s x l c ts w h hts hb hx2 h120 h98 (ascii_run bin_ascii s x)
      | false =>
        rw [if_neg (by simpa using h98)]
        exact hashes_none B g s x l c ts w h hb hx2 h120 h98
  · rw [if_neg hx2]
    exact hashes_end B g s x l c ts w h hb hx hx2
end
section
open Go.RowKit Go.Proofs.YthklnopfgoekeaaGreatDoorW.PrintWords Go.Proofs.YthklnopfgoekeaaGreatDoorW.PrintLast Go.Proofs.YthklnopfgoekeaaGreatDoorW.PrintMore
set_option linter.unusedVariables false

def txt (acc : List UInt8) (t : ByteArray) : List UInt8 := acc ++ t.data.toList
def strOf (l : List UInt8) : ByteArray := ⟨l.toArray⟩
theorem txt_length (acc : List UInt8) (t : ByteArray) : (txt acc t).length = acc.length + t.size := by simp [txt]
/-- A text between quotes, from place i on; acc: what has been read. -/
def quoteGo (s : ByteArray) : Nat → Nat → List UInt8 → Option (List UInt8 × Nat)
  | 0, _, _ => none
  | d + 1, i, acc =>
    if i + runN quoteB s i < s.size ∧ bt s ((i + runN quoteB s i : Nat) : Int) = 34 then
      if i + runN quoteB s i + 1 < s.size ∧ bt s ((i + runN quoteB s i + 1 : Nat) : Int) = 34 then quoteGo s d (i + runN quoteB s i + 2) (txt acc (s.extract i (i + runN quoteB s i)) ++ [34])
      else some (txt acc (s.extract i (i + runN quoteB s i)), i + runN quoteB s i + 1)
    else none
def quotesR (s : ByteArray) (x : Nat) : Rd := match quoteGo s (s.size + 1) (x + 1) [] with
  | none => ⟨61, none, 0⟩
  | some (l, j) => ⟨0, some (7, strOf l, false), j - x⟩
theorem cells_join (acc : List UInt8) (t : ByteArray) : Lib.byteCells acc ++ Lib.strCells t = Lib.byteCells (txt acc t) := by
  simp [Lib.byteCells, Lib.strCells, txt]
theorem builder_below {B b : Nat} {bs : List Value} {w w' : World} (h : Lib.IsBuilder 78 5 B b bs w) (hb : Below w.heap.size w w') : Lib.IsBuilder 78 5 B b bs w' := by
  rcases h with ⟨h1, v, h2, h3, h4⟩ | ⟨h1, v, h2, h3, h4⟩
  · exact .inl ⟨h1, v, blk_below h2 hb, pw_own_below h3 hb, h4⟩
  · exact .inr ⟨h1, v, blk_below h2 hb, pw_own_below h3 hb, h4⟩
theorem builder_fresh (w : World) : Lib.IsBuilder 78 5 w.heap.size w.heap.size (Lib.byteCells []) (w.alloc (.cells #[.pointer none, .slice none 0 0] 78)) :=
  .inl ⟨Nat.le_refl _, .slice none 0 0, blk_new w _, own_nil _ _ _ _, by simp [Value.ownBlock]⟩
theorem keepB {B g : Nat} {s : ByteArray} {x l c : Int} {v : Value} {w w' : World} (h : Cells g s x l c v w) (hg : g < B) (hb : Below B w w') : Cells g s x l c v w' := ⟨(hb.block g hg).trans h.b⟩
theorem cells_snoc (acc : List UInt8) : Lib.byteCells acc ++ [Value.int .u8 34] = Lib.byteCells (acc ++ [34]) := by
  simp [Lib.byteCells]
theorem string_calls (B b : Nat) (l : List UInt8) (w : World) (h : Lib.IsBuilder 78 5 B b (Lib.byteCells l) w) (hBw : B ≤ w.heap.size) :
    Calls Tryz.prog 44 #[.pointer (some ⟨b, 0, none⟩)] w fun e w' => e = .returned (.string (strOf l)) ∧ Below B w w' := Tryz.Builder_String_any B b l w h hBw
theorem quotes_none {s : ByteArray} {x : Nat} (h : quoteGo s (s.size + 1) (x + 1) [] = none) : quotesR s x = ⟨61, none, 0⟩ := by unfold quotesR; rw [h]
theorem quotes_some {s : ByteArray} {x : Nat} {l : List UInt8} {j : Nat} (h : quoteGo s (s.size + 1) (x + 1) [] = some (l, j)) : quotesR s x = ⟨0, some (7, strOf l, false), j - x⟩ := by unfold quotesR; rw [h]
theorem add3 (k n : Nat) : ((k + n + 1 : Nat) : Int) = (k : Int) + n + 1 := by omega
theorem quoteGo_bad {s : ByteArray} {k n d : Nat} {acc : List UInt8} (hd : s.size - k < d) (hn : n = runN quoteB s k) (hin : k + n < s.size) (h34 : (bt s ((k : Int) + n) != 34) = true) : quoteGo s d k acc = none := by
  obtain ⟨d', rfl⟩ : ∃ d', d = d' + 1 := ⟨d - 1, by omega⟩
  rw [quoteGo, ← hn, Int.natCast_add]
  rw [if_neg (fun h => by simp [h.2] at h34)]
theorem quoteGo_out {s : ByteArray} {k n d : Nat} {acc : List UInt8} (hd : s.size - k < d) (hn : n = runN quoteB s k) (hin : ¬ k + n < s.size) : quoteGo s d k acc = none := by
  obtain ⟨d', rfl⟩ : ∃ d', d = d' + 1 := ⟨d - 1, by omega⟩
  rw [quoteGo, ← hn, if_neg (fun h => hin h.1)]
theorem quoteGo_stop {s : ByteArray} {k n d : Nat} {acc : List UInt8} (hd : s.size - k < d) (hn : n = runN quoteB s k) (hin : k + n < s.size) (h34 : (bt s ((k : Int) + n) != 34) = false) (hno : (¬ k + n + 1 < s.size) ∨ (bt s ((k : Int) + n + 1) != 34) = true) : quoteGo s d k acc = some (txt acc (s.extract k (k + n)), k + n + 1) := by
  obtain ⟨d', rfl⟩ : ∃ d', d = d' + 1 := ⟨d - 1, by omega⟩
  rw [quoteGo, ← hn, if_pos ⟨hin, by rw [Int.natCast_add]; simpa using h34⟩]
  rw [if_neg (fun h => by rcases hno with h' | h'; exact h' h.1; rw [← add3, bne_iff_ne] at h'; exact h' h.2)]
theorem quoteGo_more {s : ByteArray} {k n d : Nat} {acc : List UInt8} (hn : n = runN quoteB s k) (hin : k + n < s.size) (h34 : (bt s ((k : Int) + n) != 34) = false) (hin2 : k + n + 1 < s.size) (h342 : (bt s ((k : Int) + n + 1) != 34) = false) : quoteGo s (d + 1) k acc = quoteGo s d (k + n + 2) (txt acc (s.extract k (k + n)) ++ [34]) := by
  rw [quoteGo, ← hn, if_pos ⟨hin, by rw [Int.natCast_add]; simpa using h34⟩]
  rw [if_pos ⟨hin2, by rw [add3]; simpa using h342⟩]
theorem builder_drew {B b : Nat} {bs : List Value} {w : World} (h : Lib.IsBuilder 78 5 B b bs w) : Lib.IsBuilder 78 5 B b bs w.drew := h
theorem size_drew {B : Nat} {w : World} (h : B ≤ w.heap.size) : B ≤ w.drew.heap.size := h
theorem below_undrew {B : Nat} {w w' : World} (h : Below B w.drew w') : Below B w w' := ⟨h.os, h.tape, h.output, h.size, h.block⟩
set_option maxHeartbeats 1000000 in
set_option maxRecDepth 100000 in
theorem quotes_reads : ReadsAs 68 quotesR 6 := by
  intro B g s x l c ts w h hts hb hx hcls
  have H := Aside0.mk h
  have HB := Aside0.mk hb
  have hs := hb.size
  obtain ⟨h1, h2, v, hC, hR⟩ := h
  have hgl := hC.lt
  have hc1 := hC.c1
  have HC := Aside0.mk hC
  clear hC hR hb hcls
  go_enter Tryz.func68, Tryz.ntmps68
  go_wp2
  go_loopw [4] (fun i wr => ∃ (k d : Nat) (acc : List UInt8), k ≤ s.size ∧ x < k ∧ i = .int .i64 k ∧ Aside0 (acc.length ≤ k) ∧ Aside0 (s.size - k < d) ∧ Aside0 (quoteGo s d k acc = quoteGo s (s.size + 1) (x + 1) []) ∧ Aside0 (Below w.heap.size w wr) ∧ Aside0 (Lib.IsBuilder 78 5 w.heap.size w.heap.size (Lib.byteCells acc) wr)) (fun i _ => s.size - (intOf i).toNat)
  case atStart => exact ⟨x + 1, s.size + 1, [], by omega, by omega, by go_num, ⟨by simp⟩, ⟨by omega⟩, ⟨rfl⟩, ⟨(Below.refl _ _).alloc (Nat.le_refl _) _⟩, ⟨builder_fresh w⟩⟩
  case round =>
    obtain ⟨k, d, acc, hk, hxk, rfl, HL, HD, HQ, HBl, HI⟩ := hrel
    have hd0 := (keepB HC.out hgl HBl.out).c0
    have hwsz := HBl.out.size
    go_wp2_with fail
    refine (run_quote g s k hk hs wr hd0).mono ?_
    rintro e w1 ⟨rfl, hb1⟩
    have hle := runN_le quoteB s k hk
    obtain ⟨n, hn⟩ : ∃ n, n = runN quoteB s k := ⟨_, rfl⟩
    rw [← hn] at hle ⊢
    have HN := Aside0.mk hn
    have HB1 : Aside0 (Below w.heap.size w w1) := ⟨below_then HBl.out hwsz hb1⟩
    have HI1 := Aside0.mk (builder_below HI.out hb1)
    have hd0' := (keepB HC.out hgl HB1.out).c0
    have hwsz1 := HB1.out.size
    clear hn hb1 hd0 hwsz
    have hsl := slice_str s (k : Int) ((k : Int) + n) k (k + n) rfl (by omega) (by omega) (by omega)
    go_wp2_with fail
    refine (Tryz.Builder_WriteString w.heap.size w.heap.size (Lib.byteCells acc) (s.extract k (k + n)) w1 HI1.out (by rw [Lib.byteCells_length, ByteArray.size_extract]; have := HL.out; omega) hwsz1).mono ?_
    rintro e w2 ⟨rfl, hI2, hb2⟩
    rw [cells_join] at hI2
    have HB2 : Aside0 (Below w.heap.size w w2) := ⟨HB1.out.trans hb2⟩
    have HI2 : Aside0 (Lib.IsBuilder 78 5 w.heap.size w.heap.size (Lib.byteCells (txt acc (s.extract k (k + n)))) w2) := ⟨.inr hI2⟩
    have hd2 := (keepB HC.out hgl HB2.out).c0
    have hwsz2 := HB2.out.size
    clear hI2 hb2 hd0' hwsz1 hsl
    have hd21 := (keepB HC.out hgl HB2.out).c1
    by_cases hin : k + n < s.size
    · have hg : decide ((s.size : Int) ≤ (k : Int) + n) = false := decide_eq_false (by omega)
      have hix := index_str s ((k : Int) + n) (k + n) (by omega) hin
      cases h34 : (bt s ((k : Int) + n) != 34) with
      | true =>
        have HE : Aside0 (quotesR s x = ⟨61, none, 0⟩) := ⟨quotes_none (by rw [← HQ.out]; exact quoteGo_bad HD.out HN.out hin h34)⟩
        go_wp2
        go_ret
        rw [HE.out]
        exact ⟨rfl, After.stay H.out HB2.out _⟩
      | false =>
        by_cases hin2 : k + n + 1 < s.size
        · have hg2 : decide ((s.size : Int) ≤ (k : Int) + n + 1) = false := decide_eq_false (by omega)
          have hix2 := index_str s ((k : Int) + n + 1) (k + n + 1) (by omega) hin2
          cases h342 : (bt s ((k : Int) + n + 1) != 34) with
          | true =>
            have HE : Aside0 (quotesR s x = ⟨0, some (7, (strOf (txt acc (s.extract k (k + n)))), false), k + n + 1 - x⟩) := ⟨quotes_some (by rw [← HQ.out]; exact quoteGo_stop HD.out HN.out hin h34 (.inr h342))⟩
            have hwr := wrap_in ((k : Int) + n + 1 - x) (by omega) (by omega)
            go_wp2
            go_region_with (first | (go_at_call 44; (with_reducible refine (string_calls w.heap.size w.heap.size (txt acc (s.extract k (k + n))) _ (builder_drew HI2.out) (size_drew hwsz2)).mono ?_); rintro e w3 ⟨rfl, hb3⟩; have HB3 := Aside0.mk (HB2.out.trans (below_undrew hb3)); have hd31 := (keepB HC.out hgl HB3.out).c1; clear hb3) | (go_at_call 90; (with_reducible refine (put_on B g s x l c ts 7 (strOf (txt acc (s.extract k (k + n)))) false (k + n + 1 - x) w _ H.out hts HB.out (by omega) _ (by omega) (by first | exact HB3.out | exact below_drew_any HB3.out)).mono ?_); rintro e w4 ⟨rfl, hA⟩; have HA := Aside0.mk hA; clear hA))
            all_goals
              go_wp2
              go_ret
              rw [HE.out]
              exact ⟨rfl, HA.out⟩
          | false =>
            obtain ⟨d', rfl⟩ : ∃ d', d = d' + 1 := ⟨d - 1, by have := HD.out; omega⟩
            have HQ2 := Aside0.mk (quoteGo_more HN.out hin h34 hin2 h342 (acc := acc) (d := d'))
            go_wp2_with fail
            refine (Tryz.Builder_WriteByte w.heap.size w.heap.size (Lib.byteCells (txt acc (s.extract k (k + n)))) 34 w2 HI2.out (by rw [Lib.byteCells_length, txt_length, ByteArray.size_extract]; have := HL.out; omega) hwsz2).mono ?_
            rintro e w3 ⟨rfl, hI3, hb3⟩
            have HB3 : Aside0 (Below w.heap.size w w3) := ⟨HB2.out.trans hb3⟩
            have HI3 : Aside0 (Lib.IsBuilder 78 5 w.heap.size w.heap.size (Lib.byteCells (txt acc (s.extract k (k + n)) ++ [34])) w3) := ⟨.inr (by rw [cells_snoc] at hI3; exact hI3)⟩
            have HL3 : Aside0 ((txt acc (s.extract k (k + n)) ++ [34]).length ≤ k + n + 2) := ⟨by simp only [List.length_append, List.length_cons, List.length_nil, txt_length, ByteArray.size_extract]; have := HL.out; omega⟩
            clear hI3 hb3 hix hix2 hg hg2
            go_wp2
            go_roundw
            case rel => exact ⟨k + n + 2, d', _, by omega, by omega, by go_num, HL3, ⟨by have := HD.out; omega⟩, ⟨by rw [← HQ2.out, HQ.out]⟩, HB3, HI3⟩
            case measure => simp [intOf]; omega
        · have hg2 : decide ((s.size : Int) ≤ (k : Int) + n + 1) = true := decide_eq_true (by omega)
          have HE : Aside0 (quotesR s x = ⟨0, some (7, (strOf (txt acc (s.extract k (k + n)))), false), k + n + 1 - x⟩) := ⟨quotes_some (by rw [← HQ.out]; exact quoteGo_stop HD.out HN.out hin h34 (.inl hin2))⟩
          have hwr := wrap_in ((k : Int) + n + 1 - x) (by omega) (by omega)
          go_wp2
          go_region_with (first | (go_at_call 44; (with_reducible refine (string_calls w.heap.size w.heap.size (txt acc (s.extract k (k + n))) _ (builder_drew HI2.out) (size_drew hwsz2)).mono ?_); rintro e w3 ⟨rfl, hb3⟩; have HB3 := Aside0.mk (HB2.out.trans (below_undrew hb3)); have hd31 := (keepB HC.out hgl HB3.out).c1; clear hb3) | (go_at_call 90; (with_reducible refine (put_on B g s x l c ts 7 (strOf (txt acc (s.extract k (k + n)))) false (k + n + 1 - x) w _ H.out hts HB.out (by omega) _ (by omega) (by first | exact HB3.out | exact below_drew_any HB3.out)).mono ?_); rintro e w4 ⟨rfl, hA⟩; have HA := Aside0.mk hA; clear hA))
          all_goals
            go_wp2
            go_ret
            rw [HE.out]
            exact ⟨rfl, HA.out⟩
    · have hg : decide ((s.size : Int) ≤ (k : Int) + n) = true := decide_eq_true (by omega)
      have HE : Aside0 (quotesR s x = ⟨61, none, 0⟩) := ⟨quotes_none (by rw [← HQ.out]; exact quoteGo_out HD.out HN.out hin)⟩
      go_wp2
      go_ret
      rw [HE.out]
      exact ⟨rfl, After.stay H.out HB2.out _⟩
end
section
open Go.RowKit Go.Proofs.YthklnopfgoekeaaGreatDoorW.PrintWords Go.Proofs.YthklnopfgoekeaaGreatDoorW.PrintLast Go.Proofs.YthklnopfgoekeaaGreatDoorW.PrintMore
set_option linter.unusedVariables false

def ent (n : Nat) : MapEntry := ⟨.int .i64 ((n : Int) + 1), .func (.func (63 + n)) #[] #[], n⟩
def tab : Nat → Array MapEntry
  | 0 => #[]
  | n + 1 => (tab n).push (ent n)
theorem check_run (e : Bool) (n : Nat) (k : Int) (w : World) : (Instr.checkKey e (n + 1) 3 (.int .i64 k)).run Tryz.prog w = .ok () w := by
  have h2 := Tryz.underlying3
  simp [Instr.checkKey, run_underlying h2]
theorem check_run' (e : Bool) (k : Int) (w : World) : (Instr.checkKey e 10000 3 (.int .i64 k)).run Tryz.prog w = .ok () w := check_run e 9999 k w
theorem find_run (k : Int) (es : List MapEntry) (r : Option (Nat × Value)) (h : Instr.findNow (.int .i64) (.int .i64 k) es 0 = some r) (w : World) : (Instr.findKey 3 (.int .i64 k) es).run Tryz.prog w = .ok r w := by
  have h2 := Tryz.underlying3
  simp [Instr.findKey, run_underlying h2, h]
theorem alloc_setBlock (w : World) (o o' : Obj) (W : World) (hW : W = w.alloc o) : ({ heap := W.heap.setIfInBounds w.heap.size o', tape := w.tape, drawn := w.drawn, os := W.os, output := W.output } : World) = w.alloc o' := by
  subst hW
  have h : (w.alloc o).heap = w.heap.push o := rfl
  have e : (w.heap.push o).setIfInBounds w.heap.size o' = w.heap.push o' := by
    apply Array.ext
    · simp
    · intro i h1 h2
      rcases Nat.lt_or_ge i w.heap.size with h3 | h3
      · rw [Array.getElem_setIfInBounds (by simp; omega), if_neg (by omega), Array.getElem_push_lt h3, Array.getElem_push_lt h3]
      · have : i = w.heap.size := by simp at h2; omega
        subst this
        simp
  rw [h, e]
  rfl
theorem insert_run (w : World) (es : Array MapEntry) (c : Nat) (k : Int) (v : Value) (h : Instr.findNow (.int .i64) (.int .i64 k) es.toList 0 = some none) :
    (Instr.mapUpdate 95 (.map (some w.heap.size)) (.int .i64 k) v).run Tryz.prog (w.alloc (.map es c)) = .ok () (w.alloc (.map (es.push ⟨.int .i64 k, v, c⟩) (c + 1))) := by
  have h1 := Tryz.underlying95
  have h2 := Tryz.underlying3
  have h3 := blk_new w (.map es c)
  simp [Instr.mapUpdate, run_underlying h1, check_run', find_run _ _ _ h, MapKept.run_getObj_map h3, MapKept.run_setObj_map _ h3, Result.andThen]
  exact alloc_setBlock w _ _ _ rfl
theorem look_run (w : World) (b : Nat) (es : Array MapEntry) (c : Nat) (k : Int) (i : Nat) (v : Value) (hb : w.heap[b]? = some (.map es c)) (h : Instr.findNow (.int .i64) (.int .i64 k) es.toList 0 = some (some (i, v))) :
    (Instr.lookup 95 (.map (some b)) (.int .i64 k) true).run Tryz.prog w = .ok (.tuple #[v, .bool true]) w := by
  have h1 := Tryz.underlying95
  have h2 := Tryz.underlying3
  simp [Instr.lookup, run_underlying h1, check_run', find_run _ _ _ h, MapKept.run_getObj_map hb, Result.andThen]
theorem look_none (w : World) (b : Nat) (es : Array MapEntry) (c : Nat) (k : Int) (hb : w.heap[b]? = some (.map es c)) (h : Instr.findNow (.int .i64) (.int .i64 k) es.toList 0 = some none) :
    (Instr.lookup 95 (.map (some b)) (.int .i64 k) true).run Tryz.prog w = .ok (.tuple #[.nilFunc, .bool false]) w := by
  have h1 := Tryz.underlying95
  have h2 := Tryz.underlying3
  have h3 := Tryz.underlying97
  simp [Instr.lookup, run_underlying h1, check_run', find_run _ _ _ h, MapKept.run_getObj_map hb, Result.andThen]
theorem ins_tab (n : Nat) (h : Instr.findNow (.int .i64) (.int .i64 ((n : Int) + 1)) (tab n).toList 0 = some none) (w : World) :
    (Instr.mapUpdate 95 (.map (some w.heap.size)) (.int .i64 ((n : Int) + 1)) (.func (.func (63 + n)) #[] #[])).run Tryz.prog (w.alloc (.map (tab n) n)) = .ok () (w.alloc (.map (tab (n + 1)) (n + 1))) := insert_run w (tab n) n _ _ h
/-- The whole table. -/
def tab9 : Array MapEntry := tab 9
set_option maxRecDepth 100000 in
theorem readers_calls (w : World) : Calls Tryz.prog 50 #[] w fun e w' => e = .returned (.map (some w.heap.size)) ∧ w' = w.alloc (.map tab9 9) := by
  have hmm := @run_makeMap Tryz.prog
  have i0 : ∀ w : World, (Instr.mapUpdate 95 (.map (some w.heap.size)) (.int .i64 1) (.func (.func 63) #[] #[])).run Tryz.prog (w.alloc (.map #[] 0)) = .ok () (w.alloc (.map (tab 1) 1)) := ins_tab 0 rfl
  have i1 : ∀ w : World, (Instr.mapUpdate 95 (.map (some w.heap.size)) (.int .i64 2) (.func (.func 64) #[] #[])).run Tryz.prog (w.alloc (.map (tab 1) 1)) = .ok () (w.alloc (.map (tab 2) 2)) := ins_tab 1 rfl
  have i2 : ∀ w : World, (Instr.mapUpdate 95 (.map (some w.heap.size)) (.int .i64 3) (.func (.func 65) #[] #[])).run Tryz.prog (w.alloc (.map (tab 2) 2)) = .ok () (w.alloc (.map (tab 3) 3)) := ins_tab 2 rfl
  have i3 : ∀ w : World, (Instr.mapUpdate 95 (.map (some w.heap.size)) (.int .i64 4) (.func (.func 66) #[] #[])).run Tryz.prog (w.alloc (.map (tab 3) 3)) = .ok () (w.alloc (.map (tab 4) 4)) := ins_tab 3 rfl
  have i4 : ∀ w : World, (Instr.mapUpdate 95 (.map (some w.heap.size)) (.int .i64 5) (.func (.func 67) #[] #[])).run Tryz.prog (w.alloc (.map (tab 4) 4)) = .ok () (w.alloc (.map (tab 5) 5)) := ins_tab 4 rfl
  have i5 : ∀ w : World, (Instr.mapUpdate 95 (.map (some w.heap.size)) (.int .i64 6) (.func (.func 68) #[] #[])).run Tryz.prog (w.alloc (.map (tab 5) 5)) = .ok () (w.alloc (.map (tab 6) 6)) := ins_tab 5 rfl
  have i6 : ∀ w : World, (Instr.mapUpdate 95 (.map (some w.heap.size)) (.int .i64 7) (.func (.func 69) #[] #[])).run Tryz.prog (w.alloc (.map (tab 6) 6)) = .ok () (w.alloc (.map (tab 7) 7)) := ins_tab 6 rfl
  have i7 : ∀ w : World, (Instr.mapUpdate 95 (.map (some w.heap.size)) (.int .i64 8) (.func (.func 70) #[] #[])).run Tryz.prog (w.alloc (.map (tab 7) 7)) = .ok () (w.alloc (.map (tab 8) 8)) := ins_tab 7 rfl
  have i8 : ∀ w : World, (Instr.mapUpdate 95 (.map (some w.heap.size)) (.int .i64 9) (.func (.func 71) #[] #[])).run Tryz.prog (w.alloc (.map (tab 8) 8)) = .ok () (w.alloc (.map tab9 9)) := ins_tab 8 rfl
  go_enter Tryz.func50, Tryz.ntmps50
  go_wp2
  go_ret
  exact ⟨rfl, rfl⟩
theorem look_tab (w : World) (b : Nat) (n : Nat) (hn : n < 9) (hb : w.heap[b]? = some (.map tab9 9)) :
    (Instr.lookup 95 (.map (some b)) (.int .i64 ((n : Int) + 1)) true).run Tryz.prog w = .ok (.tuple #[.func (.func (63 + n)) #[] #[], .bool true]) w := by
  refine look_run w b tab9 9 _ n _ hb ?_
  rcases n with _ | _ | _ | _ | _ | _ | _ | _ | _ | n
  · rfl
  · rfl
  · rfl
  · rfl
  · rfl
  · rfl
  · rfl
  · rfl
  · rfl
  · omega
theorem look_zero (w : World) (b : Nat) (hb : w.heap[b]? = some (.map tab9 9)) :
    (Instr.lookup 95 (.map (some b)) (.int .i64 0) true).run Tryz.prog w = .ok (.tuple #[.nilFunc, .bool false]) w := look_none w b tab9 9 0 hb rfl
end
end Go.Proofs.YthklnopfgoekeaaGreatDoor.X
