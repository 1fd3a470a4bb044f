import Derived.Test.YthklnopfgoekeaaDoorHWords
namespace Go.Proofs.YthklnopfgoekeaaDoor.X
open Go.RowKit Go.Proofs.YthklnopfgoekeaaDoorW.PrintWords Go.Proofs.YthklnopfgoekeaaDoorW.PrintLast Go.Proofs.YthklnopfgoekeaaDoorW.PrintMore
set_option linter.unusedVariables false

theorem index_str (s : ByteArray) (i : Int) (a : Nat) (hi : i = a) (h : a < s.size) : ∀ w : World, (Instr.index 9 (.string s) (.int .i64 i)).run Tryd.prog w = .ok (.int .u8 (bt s i)) w := by
  intro w
  subst hi
  have h1 : (a : Int) < s.size := by omega
  have h3 : 0 ≤ (a : Int) := by omega
  have hu := Tryd.underlying9
  have hb := bt_nat s a h
  simp [go_sem, h, hb]
def colonsR (s : ByteArray) (x : Nat) : Rd := bareR s x 9 (s.extract (x + 1) (x + 1 + runN simpleB s (x + 1))) false (runN simpleB s (x + 1) + 1) (decide (0 < runN simpleB s (x + 1)))
set_option maxHeartbeats 2000000 in
set_option maxRecDepth 100000 in
theorem colons_reads : ReadsAs 53 colonsR 8 := by
  intro B g s x l c ts w h hts hb hx hcls
  have H := Aside0.mk h
  have HB := Aside0.mk hb
  have hs := hb.size
  obtain ⟨h1, h2, v, hC, hR⟩ := h
  have hc1 := hC.c1
  have HC := Aside0.mk hC
  clear hC hR hb hcls
  go_enter Tryd.func53, Tryd.ntmps53
  go_wp2_with fail
  have hrun := run_simple g s (x + 1) (by omega) hs w HC.out.c0
  rw [show ((x + 1 : Nat) : Int) = (x : Int) + 1 from by omega] at hrun
  refine hrun.mono ?_
  clear hrun
  rintro e w1 ⟨rfl, hb1⟩
  have hle := runN_le simpleB s (x + 1) (by omega)
  obtain ⟨n, hn⟩ : ∃ n, n = runN simpleB s (x + 1) := ⟨_, rfl⟩
  have HE : Aside0 (colonsR s x = bareR s x 9 (s.extract (x + 1) (x + 1 + n)) false (n + 1) (decide (0 < n))) := ⟨by unfold colonsR; rw [hn]⟩
  rw [← hn] at hle ⊢
  have HC1 := Aside0.mk (HC.out.below hb1)
  have HB1 := Aside0.mk hb1
  have hd0 := HC1.out.c0
  have hd1 := HC1.out.c1
  clear hn hb1
  go_wp2
  have hwr := wrap_in ((x : Int) + 1) (by omega) (by omega)
  have hwr2 := wrap_in ((x : Int) + 1 + n) (by omega) (by omega)
  have hwr3 := wrap_in ((n : Int) + 1) (by omega) (by omega)
  have hsl := slice_str s ((x : Int) + 1) ((x : Int) + 1 + n) (x + 1) (x + 1 + n) (by omega) (by omega) (by omega) (by omega)
  go_still_tail 23, (by kernel_rfl)
  change wpList _ _ _ _ _ w1.drew
  clear hwr hwr2 hwr3 hsl
  go_wp2_with fail
  refine (bare_on B g s x l c ts 9 (s.extract (x + 1) (x + 1 + n)) false (n + 1) _ w _ H.out hts HB.out (by omega) _ (by omega) (below_drew_any HB1.out)).mono ?_
  rintro e w2 ⟨rfl, hA⟩
  have HA := Aside0.mk hA
  clear hA
  go_wp2
  go_ret
  rw [HE.out]
  exact ⟨rfl, HA.out⟩
def barsR (s : ByteArray) (x : Nat) : Rd :=
  if x + 1 + runN barB s (x + 1) < s.size ∧ bt s ((x : Int) + 1 + runN barB s (x + 1)) = 124 then ⟨0, some (8, s.extract (x + 1) (x + 1 + runN barB s (x + 1)), true), runN barB s (x + 1) + 2⟩ else ⟨61, none, 0⟩
set_option maxHeartbeats 2000000 in
set_option maxRecDepth 100000 in
theorem bars_reads : ReadsAs 52 barsR 7 := by
  intro B g s x l c ts w h hts hb hx hcls
  have H := Aside0.mk h
  have HB := Aside0.mk hb
  have hs := hb.size
  obtain ⟨h1, h2, v, hC, hR⟩ := h
  have hc1 := hC.c1
  have HC := Aside0.mk hC
  clear hC hR hb hcls
  go_enter Tryd.func52, Tryd.ntmps52
  go_wp2_with fail
  have hrun := run_bar g s (x + 1) (by omega) hs w HC.out.c0
  rw [show ((x + 1 : Nat) : Int) = (x : Int) + 1 from by omega] at hrun
  refine hrun.mono ?_
  clear hrun
  rintro e w1 ⟨rfl, hb1⟩
  have hle := runN_le barB s (x + 1) (by omega)
  obtain ⟨n, hn⟩ : ∃ n, n = runN barB s (x + 1) := ⟨_, rfl⟩
  have HE : Aside0 (barsR s x = if x + 1 + n < s.size ∧ bt s ((x : Int) + 1 + n) = 124 then ⟨0, some (8, s.extract (x + 1) (x + 1 + n), true), n + 2⟩ else ⟨61, none, 0⟩) := ⟨by unfold barsR; rw [hn]⟩
  rw [← hn] at hle ⊢
  have HC1 := Aside0.mk (HC.out.below hb1)
  have HB1 := Aside0.mk hb1
  have hd0 := HC1.out.c0
  have hd1 := HC1.out.c1
  clear hn hb1
  have hwr := wrap_in ((x : Int) + 1) (by omega) (by omega)
  have hwr2 := wrap_in ((x : Int) + 1 + n) (by omega) (by omega)
  by_cases hin : x + 1 + n < s.size
  · have hin' : (x : Int) + 1 + n < s.size := by omega
    have hg : decide ((s.size : Int) ≤ (x : Int) + 1 + n) = false := decide_eq_false (by omega)
    have hix := index_str s ((x : Int) + 1 + n) (x + 1 + n) (by omega) hin
    by_cases h124 : (bt s ((x : Int) + 1 + n) != 124) = true
    · have HE2 : Aside0 (barsR s x = ⟨61, none, 0⟩) := ⟨by rw [HE.out, if_neg (fun h => by simp [h.2] at h124)]⟩
      go_wp2
      go_quiet (fail)
      go_wp2
      go_ret
      rw [HE2.out]
      exact ⟨rfl, After.stay H.out (pw_below_drewN HB1.out _) _⟩
    · replace h124 := Bool.eq_false_iff.mpr h124
      have HE2 : Aside0 (barsR s x = ⟨0, some (8, s.extract (x + 1) (x + 1 + n), true), n + 2⟩) := ⟨by rw [HE.out, if_pos ⟨hin, by simpa using h124⟩]⟩
      have hwr3 := wrap_in ((n : Int) + 2) (by omega) (by omega)
      have hsl := slice_str s ((x : Int) + 1) ((x : Int) + 1 + n) (x + 1) (x + 1 + n) (by omega) (by omega) (by omega) (by omega)
      go_wp2
      go_quiet (fail)
      generalize hw2 : w1.drewN _ = w2
      have HC2 : Aside0 (Cells g s x l c v w2) := ⟨by rw [← hw2]; exact HC1.out.drewN _⟩
      have HB2 : Aside0 (Below w.heap.size w w2) := ⟨by rw [← hw2]; exact pw_below_drewN HB1.out _⟩
      clear hw2 hd0 hd1
      have hd0 := HC2.out.c0
      have hd1 := HC2.out.c1
      go_wp2
      go_still_tail 21, (by kernel_rfl)
      change wpList _ _ _ _ _ w2.drew
      clear hwr hwr2 hwr3 hsl hix h124 hg
      go_wp2_with fail
      refine (put_on B g s x l c ts 8 (s.extract (x + 1) (x + 1 + n)) true (n + 2) w _ H.out hts HB.out (by omega) _ (by omega) (below_drew_any HB2.out)).mono ?_
      rintro e w3 ⟨rfl, hA⟩
      have HA := Aside0.mk hA
      clear hA
      go_wp2
      go_ret
      rw [HE2.out]
      exact ⟨rfl, HA.out⟩
  · have hg : decide ((s.size : Int) ≤ (x : Int) + 1 + n) = true := decide_eq_true (by omega)
    have HE2 : Aside0 (barsR s x = ⟨61, none, 0⟩) := ⟨by rw [HE.out, if_neg (fun h => hin h.1)]⟩
    go_wp2
    go_quiet (fail)
    go_wp2
    go_ret
    rw [HE2.out]
    exact ⟨rfl, After.stay H.out (pw_below_drewN HB1.out _) _⟩
end Go.Proofs.YthklnopfgoekeaaDoor.X
