import Derived.Test.YthklnopfgoekeaaDoorHBars
import Derived.Test.YthklnopfgoekeaaDoorShelf
import Derived.Deep.RegionWith
namespace Go.Proofs.YthklnopfgoekeaaDoor.X
open Go.RowKit Go.Proofs.YthklnopfgoekeaaDoorW.PrintWords Go.Proofs.YthklnopfgoekeaaDoorW.PrintLast Go.Proofs.YthklnopfgoekeaaDoorW.PrintMore
set_option linter.unusedVariables false

def lowS (t : ByteArray) : ByteArray := ⟨(Lib.toLowerA t.data.toList).toArray⟩
theorem lower_calls (t : ByteArray) (w : World) (hs : t.size ≤ 140737488355328) (hasc : ∀ (j : Nat) (b : UInt8), t.data.toList[j]? = some b → b.toNat < 128) :
    Calls Tryd.prog 72 #[.string t] w fun e w' => e = .returned (.string (lowS t)) ∧ Below w.heap.size w w' := Tryd.strings_ToLower_ascii t w hs hasc
theorem keep2 {g : Nat} {s : ByteArray} {x l c : Int} {v : Value} {w w' : World} (h : Cells g s x l c v w) (hb : Below w.heap.size w w') : w'.cell? ⟨g, 0, none⟩ = some (.string s) ∧ w'.cell? ⟨g, 1, none⟩ = some (.int .i64 x) := ⟨(h.below hb).c0, (h.below hb).c1⟩
def hashK (s : ByteArray) (x : Nat) (k : Int) (n : Nat) : Rd := bareR s x k (lowS (s.extract (x + 2) (x + 2 + n))) false (n + 2) (decide (0 < n))
def hashesR (s : ByteArray) (x : Nat) : Rd :=
  if x + 1 < s.size then
    if bt s ((x : Int) + 1) = 120 then hashK s x 5 (runN hexB s (x + 2))
    else if bt s ((x : Int) + 1) = 98 then hashK s x 6 (runN binB s (x + 2))
    else ⟨62, none, 0⟩
  else ⟨62, none, 0⟩
theorem runK_all (p : Int → Bool) (s : ByteArray) : ∀ (d y j : Nat), j < runK p s y d → p (bt s ((y : Int) + (j : Nat))) = true
  | 0, _, _, h => by simp [runK] at h
  | d + 1, y, j, h => by
    rw [runK] at h
    split at h
    · rename_i hp
      cases j with
      | zero => simpa using hp
      | succ j =>
        have := runK_all p s d (y + 1) j (by omega)
        have e : (y : Int) + ((j + 1 : Nat) : Int) = ((y + 1 : Nat) : Int) + (j : Nat) := by omega
        rw [e]; exact this
    · omega
theorem runN_all {p : Int → Bool} {s : ByteArray} {y j : Nat} (h : j < runN p s y) : p (bt s ((y : Int) + (j : Nat))) = true := runK_all p s _ y j h
theorem bt_data (s : ByteArray) (i : Nat) (b : UInt8) (h : s.data.toList[i]? = some b) : bt s i = b.toNat := by
  obtain ⟨h1, h2⟩ := List.getElem?_eq_some_iff.1 h
  have h1' : i < s.size := by simpa using h1
  rw [← bt_nat s i h1']
  have : s[i]'h1' = b := by rw [← h2]; rfl
  rw [this]
theorem extract_at (s : ByteArray) (a n j : Nat) (b : UInt8) (h : (s.extract a (a + n)).data.toList[j]? = some b) : j < n ∧ bt s ((a : Int) + (j : Nat)) = b.toNat := by
  have e : (s.extract a (a + n)).data.toList = (s.data.toList.drop a).take n := by
    rw [ByteArray.data_extract]
    simp [Array.toList_extract]
  rw [e] at h
  obtain ⟨h1, _⟩ := List.getElem?_eq_some_iff.1 h
  have hj : j < n := by rw [List.length_take] at h1; omega
  refine ⟨hj, ?_⟩
  rw [List.getElem?_take_of_lt hj, List.getElem?_drop] at h
  have := bt_data s (a + j) b h
  rw [← this]
  congr 1
theorem bits_or_big (c : Nat) (h : 128 ≤ c) (h2 : c ≤ 255) : 122 < bits .or .u8 (c : Int) 32 := by
  obtain ⟨k, hk, rfl⟩ : ∃ k, k < 128 ∧ c = 128 + k := ⟨c - 128, by omega, by omega⟩
  revert k
  decide
theorem ascii_run {p : Int → Bool} (hp : ∀ c : Nat, 128 ≤ c → c ≤ 255 → p c = false) (s : ByteArray) (x : Nat) : ∀ (j : Nat) (b : UInt8), (s.extract (x + 2) (x + 2 + runN p s (x + 2))).data.toList[j]? = some b → b.toNat < 128 := by
  intro j b h
  obtain ⟨h1, h2⟩ := extract_at s (x + 2) _ j b h
  have h3 := runN_all h1
  rw [h2] at h3
  rcases Nat.lt_or_ge b.toNat 128 with h4 | h4
  · exact h4
  · have := b.toNat_lt
    rw [hp _ h4 (by omega)] at h3
    cases h3
theorem hex_ascii (c : Nat) (h : 128 ≤ c) (h2 : c ≤ 255) : hexB c = false := by
  unfold hexB digitB
  have := bits_or_big c h h2
  rw [decide_eq_false (show ¬ ((c : Int) ≤ 57) by omega), decide_eq_false (show ¬ (bits .or .u8 (c : Int) 32 ≤ 102) by omega)]
  simp
theorem bin_ascii (c : Nat) (h : 128 ≤ c) (h2 : c ≤ 255) : binB c = false := by
  unfold binB
  rw [beq_eq_false_iff_ne.2 (show (c : Int) ≠ 48 by omega), beq_eq_false_iff_ne.2 (show (c : Int) ≠ 49 by omega)]
  rfl
set_option maxHeartbeats 8000000 in
set_option maxRecDepth 100000 in
theorem hashes_end (B g : Nat) (s : ByteArray) (x : Nat) (l c : Int) (ts : List S38) (w : World) (h : Sc B g s x l c ts w) (hb : Nb s x l c) (hx : x < s.size) (hx2 : ¬ x + 1 < s.size) :
    Calls Tryd.prog 50 #[.pointer (some ⟨g, 0, none⟩)] w fun e w' => e = .returned (.int .i64 62) ∧ After B g s x l c ts ⟨62, none, 0⟩ w w' := by
  have H := Aside0.mk h
  have hs := hb.size
  obtain ⟨h1, h2, v, hC, hR⟩ := h
  have hc0 := hC.c0
  have hc1 := hC.c1
  clear hC hR hb
  have hwr := wrap_in ((x : Int) + 1) (by omega) (by omega)
  have hg : decide ((s.size : Int) ≤ (x : Int) + 1) = true := decide_eq_true (by omega)
  go_enter Tryd.func50, Tryd.ntmps50
  go_wp2
  go_quiet (fail)
  go_wp2
  go_ret
  exact ⟨rfl, After.stay H.out (pw_below_drewN (Below.refl _ _) _) _⟩
set_option maxHeartbeats 8000000 in
set_option maxRecDepth 100000 in
theorem hashes_none (B g : Nat) (s : ByteArray) (x : Nat) (l c : Int) (ts : List S38) (w : World) (h : Sc B g s x l c ts w) (hb : Nb s x l c) (hx : x + 1 < s.size) (h120 : (bt s ((x : Int) + 1) == 120) = false) (h98 : (bt s ((x : Int) + 1) == 98) = false) :
    Calls Tryd.prog 50 #[.pointer (some ⟨g, 0, none⟩)] w fun e w' => e = .returned (.int .i64 62) ∧ After B g s x l c ts ⟨62, none, 0⟩ w w' := by
  have H := Aside0.mk h
  have hs := hb.size
  obtain ⟨h1, h2, v, hC, hR⟩ := h
  have hc0 := hC.c0
  have hc1 := hC.c1
  clear hC hR hb
  have hwr := wrap_in ((x : Int) + 1) (by omega) (by omega)
  have hg : decide ((s.size : Int) ≤ (x : Int) + 1) = false := decide_eq_false (by omega)
  have hix := index_str s ((x : Int) + 1) (x + 1) (by omega) hx
  go_enter Tryd.func50, Tryd.ntmps50
  go_wp2
  go_quiet (fail)
  go_wp2
  go_quiet (fail)
  go_wp2
  go_ret
  exact ⟨rfl, After.stay H.out (pw_below_drewN (Below.refl _ _) _) _⟩
set_option maxHeartbeats 8000000 in
set_option maxRecDepth 100000 in
theorem hashes_hex (B g : Nat) (s : ByteArray) (x : Nat) (l c : Int) (ts : List S38) (w : World) (h : Sc B g s x l c ts w) (hts : ts.length ≤ x) (hb : Nb s x l c) (hx : x + 1 < s.size) (h120 : (bt s ((x : Int) + 1) == 120) = true) (hasc : ∀ (j : Nat) (b : UInt8), (s.extract (x + 2) (x + 2 + runN hexB s (x + 2))).data.toList[j]? = some b → b.toNat < 128) :
    Calls Tryd.prog 50 #[.pointer (some ⟨g, 0, none⟩)] w fun e w' => e = .returned (.int .i64 (hashK s x 5 (runN hexB s (x + 2))).err) ∧ After B g s x l c ts (hashK s x 5 (runN hexB s (x + 2))) w w' := by
  have H := Aside0.mk h
  have HB := Aside0.mk hb
  have hs := hb.size
  obtain ⟨h1, h2, v, hC, hR⟩ := h
  have hc0 := hC.c0
  have hc1 := hC.c1
  have HC := Aside0.mk hC
  have hle := runN_le hexB s (x + 2) (by omega)
  obtain ⟨n, hn⟩ : ∃ n, n = runN hexB s (x + 2) := ⟨_, rfl⟩
  rw [← hn] at hasc hle ⊢
  have HN := Aside0.mk hn
  have HA0 := Aside0.mk hasc
  clear hC hR hb hn hasc
  have hwr := wrap_in ((x : Int) + 1) (by omega) (by omega)
  have hg : decide ((s.size : Int) ≤ (x : Int) + 1) = false := decide_eq_false (by omega)
  have hix := index_str s ((x : Int) + 1) (x + 1) (by omega) hx
  go_enter Tryd.func50, Tryd.ntmps50
  go_wp2
  go_quiet (fail)
  go_wp2
  go_quiet (fail)
  generalize hw2 : (w.drewN _).drewN _ = w2
  have HC2 : Aside0 (Cells g s x l c v w2) := ⟨by rw [← hw2]; exact (HC.out.drewN _).drewN _⟩
  have HB2 : Aside0 (Below w.heap.size w w2) := ⟨by rw [← hw2]; exact pw_below_drewN (pw_below_drewN (Below.refl _ _) _) _⟩
  clear hw2 hc0 hc1 hg hix
  have hd0 := HC2.out.c0
  have hd1 := HC2.out.c1
  go_wp2_with fail
  have hrun := run_hex g s (x + 2) (by omega) hs w2 HC2.out.c0
  rw [show ((x + 2 : Nat) : Int) = (x : Int) + 2 from by omega] at hrun
  refine hrun.mono ?_
  clear hrun
  rintro e w4 ⟨rfl, hb4⟩
  rw [← HN.out]
  have HC4 := Aside0.mk (HC2.out.below hb4)
  have HB4 : Aside0 (Below w.heap.size w w4) := ⟨below_then HB2.out HB2.out.size hb4⟩
  clear hb4 hd0 hd1
  have hd0 := HC4.out.c0
  have hd1 := HC4.out.c1
  go_wp2
  have hwr1 := wrap_in ((x : Int) + 2) (by omega) (by omega)
  have hwr2 := wrap_in ((x : Int) + 2 + n) (by omega) (by omega)
  have hwr3 := wrap_in ((n : Int) + 2) (by omega) (by omega)
  have hsl := slice_str s ((x : Int) + 2) ((x : Int) + 2 + n) (x + 2) (x + 2 + n) (by omega) (by omega) (by omega) (by omega)
  have HSZ : Aside0 ((s.extract (x + 2) (x + 2 + n)).size ≤ 140737488355328) := ⟨by rw [ByteArray.size_extract]; omega⟩
  go_region_with (first | (go_at_call 72; refine (lower_calls _ _ HSZ.out HA0.out).mono ?_; rintro e w5 ⟨rfl, hb5⟩; have HB5 := Aside0.mk (below_then (below_drew_any HB4.out) HB4.out.size hb5); clear hb5) | (go_at_call 69; refine (bare_on B g s x l c ts 5 (lowS (s.extract (x + 2) (x + 2 + n))) false (n + 2) _ w _ H.out hts HB.out (by omega) _ (by omega) HB5.out).mono ?_; rintro e w6 ⟨rfl, hA⟩; have HA := Aside0.mk hA; clear hA))
  all_goals
    go_wp2
    go_ret
    exact ⟨rfl, HA.out⟩
set_option maxHeartbeats 8000000 in
set_option maxRecDepth 100000 in
theorem hashes_bin (B g : Nat) (s : ByteArray) (x : Nat) (l c : Int) (ts : List S38) (w : World) (h : Sc B g s x l c ts w) (hts : ts.length ≤ x) (hb : Nb s x l c) (hx : x + 1 < s.size) (h120 : (bt s ((x : Int) + 1) == 120) = false) (h98 : (bt s ((x : Int) + 1) == 98) = true) (hasc : ∀ (j : Nat) (b : UInt8), (s.extract (x + 2) (x + 2 + runN binB s (x + 2))).data.toList[j]? = some b → b.toNat < 128) :
    Calls Tryd.prog 50 #[.pointer (some ⟨g, 0, none⟩)] w fun e w' => e = .returned (.int .i64 (hashK s x 6 (runN binB s (x + 2))).err) ∧ After B g s x l c ts (hashK s x 6 (runN binB s (x + 2))) w w' := by
  have H := Aside0.mk h
  have HB := Aside0.mk hb
  have hs := hb.size
  obtain ⟨h1, h2, v, hC, hR⟩ := h
  have hc0 := hC.c0
  have hc1 := hC.c1
  have HC := Aside0.mk hC
  have hle := runN_le binB s (x + 2) (by omega)
  obtain ⟨n, hn⟩ : ∃ n, n = runN binB s (x + 2) := ⟨_, rfl⟩
  rw [← hn] at hasc hle ⊢
  have HN := Aside0.mk hn
  have HA0 := Aside0.mk hasc
  clear hC hR hb hn hasc
  have hwr := wrap_in ((x : Int) + 1) (by omega) (by omega)
  have hg : decide ((s.size : Int) ≤ (x : Int) + 1) = false := decide_eq_false (by omega)
  have hix := index_str s ((x : Int) + 1) (x + 1) (by omega) hx
  go_enter Tryd.func50, Tryd.ntmps50
  go_wp2
  go_quiet (fail)
  go_wp2
  go_quiet (fail)
  generalize hw2 : (w.drewN _).drewN _ = w2
  have HC2 : Aside0 (Cells g s x l c v w2) := ⟨by rw [← hw2]; exact (HC.out.drewN _).drewN _⟩
  have HB2 : Aside0 (Below w.heap.size w w2) := ⟨by rw [← hw2]; exact pw_below_drewN (pw_below_drewN (Below.refl _ _) _) _⟩
  clear hw2 hc0 hc1 hg hix
  have hd0 := HC2.out.c0
  have hd1 := HC2.out.c1
  go_wp2_with fail
  have hrun := run_bin g s (x + 2) (by omega) hs w2 HC2.out.c0
  rw [show ((x + 2 : Nat) : Int) = (x : Int) + 2 from by omega] at hrun
  refine hrun.mono ?_
  clear hrun
  rintro e w4 ⟨rfl, hb4⟩
  rw [← HN.out]
  have HC4 := Aside0.mk (HC2.out.below hb4)
  have HB4 : Aside0 (Below w.heap.size w w4) := ⟨below_then HB2.out HB2.out.size hb4⟩
  clear hb4 hd0 hd1
  have hd0 := HC4.out.c0
  have hd1 := HC4.out.c1
  go_wp2
  have hwr1 := wrap_in ((x : Int) + 2) (by omega) (by omega)
  have hwr2 := wrap_in ((x : Int) + 2 + n) (by omega) (by omega)
  have hwr3 := wrap_in ((n : Int) + 2) (by omega) (by omega)
  have hsl := slice_str s ((x : Int) + 2) ((x : Int) + 2 + n) (x + 2) (x + 2 + n) (by omega) (by omega) (by omega) (by omega)
  have HSZ : Aside0 ((s.extract (x + 2) (x + 2 + n)).size ≤ 140737488355328) := ⟨by rw [ByteArray.size_extract]; omega⟩
  go_region_with (first | (go_at_call 72; refine (lower_calls _ _ HSZ.out HA0.out).mono ?_; rintro e w5 ⟨rfl, hb5⟩; have HB5 := Aside0.mk (below_then (below_drew_any HB4.out) HB4.out.size hb5); clear hb5) | (go_at_call 69; refine (bare_on B g s x l c ts 6 (lowS (s.extract (x + 2) (x + 2 + n))) false (n + 2) _ w _ H.out hts HB.out (by omega) _ (by omega) HB5.out).mono ?_; rintro e w6 ⟨rfl, hA⟩; have HA := Aside0.mk hA; clear hA))
  all_goals
    go_wp2
    go_ret
    exact ⟨rfl, HA.out⟩
theorem hashes_reads : ReadsAs 50 hashesR 5 := by
  intro B g s x l c ts w h hts hb hx hcls
  unfold hashesR
  by_cases hx2 : x + 1 < s.size
  · rw [if_pos hx2]
    cases h120 : (bt s ((x : Int) + 1) == 120) with
    | true =>
      rw [if_pos (by simpa using h120)]
      exact hashes_hex B g s x l c ts w h hts hb hx2 h120 (ascii_run hex_ascii s x)
    | false =>
      rw [if_neg (by simpa using h120)]
      cases h98 : (bt s ((x : Int) + 1) == 98) with
      | true =>
        rw [if_pos (by simpa using h98)]
        exact hashes_bin B g s x l c ts w h hts hb hx2 h120 h98 (ascii_run bin_ascii s x)
      | false =>
        rw [if_neg (by simpa using h98)]
        exact hashes_none B g s x l c ts w h hb hx2 h120 h98
  · rw [if_neg hx2]
    exact hashes_end B g s x l c ts w h hb hx hx2
end Go.Proofs.YthklnopfgoekeaaDoor.X
