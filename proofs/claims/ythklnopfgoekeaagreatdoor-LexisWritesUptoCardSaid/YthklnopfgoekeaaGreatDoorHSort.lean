/- Package sort's names and the reference's: what is a name, a simple one, a reserved word; how a symbol is written. -/
import Derived.Test.YthklnopfgoekeaaGreatDoorHRScan
import Derived.Test.YthklnopfgoekeaaGreatDoorShelfS
import Derived.Test.YthklnopfgoekeaaGreatDoorX22
namespace Go.Proofs.YthklnopfgoekeaaGreatDoor.X
open Go.RowKit Go.Proofs.YthklnopfgoekeaaGreatDoorW.PrintWords Go.Proofs.YthklnopfgoekeaaGreatDoorW.PrintLast Go.Proofs.YthklnopfgoekeaaGreatDoorW.PrintMore
set_option linter.unusedVariables false
set_option linter.unusedSimpArgs false
/-- No byte of a name. -/
def nmC (c : Int) : Bool := decide (c < 32) || decide (126 < c) || (c == 124) || (c == 92)
def nameB (s : ByteArray) : Bool := decide (1 ≤ s.size) && decide (s.size ≤ 200) && !(bt s 0 == 64) && !(bt s 0 == 46) && (List.range s.size).all (fun k => !nmC (bt s (k : Int)))
theorem nameB_short {s : ByteArray} (h : s.size < 1) : nameB s = false := by
  unfold nameB; rw [decide_eq_false (by omega)]; simp
theorem nameB_long {s : ByteArray} (h : 200 < s.size) : nameB s = false := by
  unfold nameB; rw [decide_eq_false (show ¬ s.size ≤ 200 by omega)]; simp
theorem nameB_at {s : ByteArray} (h : bt s 0 = 64) : nameB s = false := by
  unfold nameB; rw [h]; simp
theorem nameB_dot {s : ByteArray} (h : bt s 0 = 46) : nameB s = false := by
  unfold nameB; rw [h]; simp
theorem nameB_bad {s : ByteArray} (k : Nat) (hk : k < s.size) (h : nmC (bt s (k : Int)) = true) : nameB s = false := by
  have : (List.range s.size).all (fun k => !nmC (bt s (k : Int))) = false := by
    rw [List.all_eq_false]
    exact ⟨k, List.mem_range.2 hk, by rw [h]; decide⟩
  unfold nameB
  rw [this, Bool.and_false]
theorem nameB_ok {s : ByteArray} (h1 : 1 ≤ s.size) (h2 : s.size ≤ 200) (h3 : bt s 0 ≠ 64) (h4 : bt s 0 ≠ 46) (h : ∀ j : Nat, j < s.size → nmC (bt s (j : Int)) = false) : nameB s = true := by
  have h5 : (List.range s.size).all (fun k => !nmC (bt s (k : Int))) = true := by
    rw [List.all_eq_true]
    intro k hk
    rw [h k (List.mem_range.1 hk)]
    rfl
  have h6 : (bt s 0 == 64) = false := beq_eq_false_iff_ne.2 h3
  have h7 : (bt s 0 == 46) = false := beq_eq_false_iff_ne.2 h4
  unfold nameB
  rw [h5, h6, h7, decide_eq_true h1, decide_eq_true h2]
  rfl
theorem name_size {s : ByteArray} (h : nameB s = true) : 1 ≤ s.size ∧ s.size ≤ 200 := by
  rcases Nat.lt_or_ge s.size 1 with h1 | h1
  · rw [nameB_short h1] at h; cases h
  · rcases Nat.lt_or_ge 200 s.size with h2 | h2
    · rw [nameB_long h2] at h; cases h
    · exact ⟨h1, h2⟩
theorem nm_next {s : ByteArray} {k : Nat} (h : ∀ j : Nat, j < k → nmC (bt s (j : Int)) = false) (hk : nmC (bt s (k : Int)) = false) : ∀ j : Nat, j < k + 1 → nmC (bt s (j : Int)) = false := by
  intro j hj
  rcases Nat.lt_or_ge j k with h1 | h1
  · exact h j h1
  · obtain rfl : j = k := by omega
    exact hk
theorem wrap_small (k : Nat) (h : k ≤ 200) : wrap64 ((k : Int) + 1) = (k : Int) + 1 := by unfold wrap64; omega
set_option maxHeartbeats 4000000 in
set_option maxRecDepth 100000 in
theorem name_tells (s : ByteArray) (w : World) : Calls Tryz.prog 81 #[.string s] w fun e w' => e = .returned (.bool (nameB s)) ∧ w' = w := by
  by_cases h0 : s.size < 1
  · have HE := Aside0.mk (nameB_short h0)
    have hz : s.size = 0 := by omega
    clear h0
    go_enter Tryz.func81, Tryz.ntmps81
    go_wp2
    go_ret
    rw [HE.out]
    exact ⟨rfl, rfl⟩
  · by_cases h1 : 200 < s.size
    · have HE := Aside0.mk (nameB_long h1)
      have hi : (200 : Int) < (s.size : Int) := by omega
      have hj : ¬ (s.size : Int) < 1 := by omega
      have hz : ¬ s.size = 0 := by omega
      clear h0
      go_enter Tryz.func81, Tryz.ntmps81
      go_wp2
      go_ret
      rw [HE.out]
      exact ⟨rfl, rfl⟩
    · have hi : ¬ (200 : Int) < (s.size : Int) := by omega
      have hj : ¬ (s.size : Int) < 1 := by omega
      have hz : ¬ s.size = 0 := by omega
      have hx0 := index_str s 0 0 rfl (by omega)
      have HZ : Aside0 (1 ≤ s.size ∧ s.size ≤ 200) := ⟨by omega⟩
      obtain ⟨b, hb⟩ : ∃ b, b = bt s 0 := ⟨_, rfl⟩
      rw [← hb] at hx0
      have HB := Aside0.mk hb
      clear h0 hb
      by_cases h64 : b = 64
      · have HE : Aside0 (nameB s = false) := ⟨nameB_at (by rw [← HB.out]; exact h64)⟩
        have h64b : (b == 64) = true := beq_iff_eq.2 h64
        clear h64
        go_enter Tryz.func81, Tryz.ntmps81
        go_wp2
        go_ret
        rw [HE.out]
        exact ⟨rfl, rfl⟩
      · have h64b : (b == 64) = false := beq_eq_false_iff_ne.2 h64
        by_cases h46 : b = 46
        · have HE : Aside0 (nameB s = false) := ⟨nameB_dot (by rw [← HB.out]; exact h46)⟩
          have h46b : (b == 46) = true := beq_iff_eq.2 h46
          clear h46 h64
          go_enter Tryz.func81, Tryz.ntmps81
          go_wp2
          go_ret
          rw [HE.out]
          exact ⟨rfl, rfl⟩
        · have h46b : (b == 46) = false := beq_eq_false_iff_ne.2 h46
          have H1 : Aside0 (bt s 0 ≠ 64 ∧ bt s 0 ≠ 46) := ⟨by rw [← HB.out]; exact ⟨h64, h46⟩⟩
          clear h46 h64 HB
          go_enter Tryz.func81, Tryz.ntmps81
          go_wp2
          clear hx0 h64b h46b hi hj hz h1
          go_loop [24] (fun i => ∃ k : Nat, k ≤ s.size ∧ i = .int .i64 k ∧ Aside0 (∀ j : Nat, j < k → nmC (bt s (j : Int)) = false)) (fun i => s.size - (intOf i).toNat)
          case atStart => exact ⟨0, Nat.zero_le _, rfl, ⟨fun j hj => absurd hj (by omega)⟩⟩
          case round =>
            obtain ⟨k, hk, rfl, HA⟩ := hrel
            by_cases hlt : k < s.size
            · have hxk := index_str s k k rfl hlt
              have HW := Aside0.mk (wrap_small k (by have := HZ.out; omega))
              have HBad := Aside0.mk (nameB_bad k hlt)
              have HNx : Aside0 (nmC (bt s (k : Int)) = false → ∀ j : Nat, j < k + 1 → nmC (bt s (j : Int)) = false) := ⟨fun h => nm_next HA.out h⟩
              obtain ⟨c, hc⟩ : ∃ c, c = bt s (k : Int) := ⟨_, rfl⟩
              rw [← hc] at hxk HBad HNx
              clear hc
              by_cases c1 : c < 32
              · have HE : Aside0 (nameB s = false) := ⟨HBad.out (by unfold nmC; rw [decide_eq_true c1]; rfl)⟩
                go_wp2
                go_ret
                rw [HE.out]
                exact ⟨rfl, rfl⟩
              · by_cases c2 : 126 < c
                · have HE : Aside0 (nameB s = false) := ⟨HBad.out (by unfold nmC; rw [decide_eq_true c2]; simp)⟩
                  go_wp2
                  go_ret
                  rw [HE.out]
                  exact ⟨rfl, rfl⟩
                · by_cases c3 : c = 124
                  · have HE : Aside0 (nameB s = false) := ⟨HBad.out (by unfold nmC; rw [c3]; rfl)⟩
                    have c3b : (c == 124) = true := beq_iff_eq.2 c3
                    go_wp2
                    go_ret
                    rw [HE.out]
                    exact ⟨rfl, rfl⟩
                  · have c3b : (c == 124) = false := beq_eq_false_iff_ne.2 c3
                    by_cases c4 : c = 92
                    · have HE : Aside0 (nameB s = false) := ⟨HBad.out (by unfold nmC; rw [c4]; rfl)⟩
                      have c4b : (c == 92) = true := beq_iff_eq.2 c4
                      go_wp2
                      go_ret
                      rw [HE.out]
                      exact ⟨rfl, rfl⟩
                    · have c4b : (c == 92) = false := beq_eq_false_iff_ne.2 c4
                      have HE : Aside0 (nmC c = false) := ⟨by unfold nmC; rw [decide_eq_false c1, decide_eq_false c2, c3b, c4b]; rfl⟩
                      go_wp2
                      go_round
                      case rel => exact ⟨k + 1, hlt, by first | rfl | exact congrArg (Value.int IntKind.i64) HW.out, ⟨HNx.out HE.out⟩⟩
                      case measure => rw [HW.out]; simp [intOf]; omega
            · obtain rfl : k = s.size := by omega
              have HE := Aside0.mk (nameB_ok HZ.out.1 HZ.out.2 H1.out.1 H1.out.2 HA.out)
              go_wp2
              go_ret
              rw [HE.out]
              exact ⟨rfl, rfl⟩
set_option maxHeartbeats 4000000 in
set_option maxRecDepth 100000 in
theorem rname_tells (s : ByteArray) (w : World) : Calls Tryz.prog 56 #[.string s] w fun e w' => e = .returned (.bool (nameB s)) ∧ w' = w := by
  by_cases h0 : s.size < 1
  · have HE := Aside0.mk (nameB_short h0)
    have hz : s.size = 0 := by omega
    clear h0
    go_enter Tryz.func56, Tryz.ntmps56
    go_wp2
    go_ret
    rw [HE.out]
    exact ⟨rfl, rfl⟩
  · by_cases h1 : 200 < s.size
    · have HE := Aside0.mk (nameB_long h1)
      have hi : (200 : Int) < (s.size : Int) := by omega
      have hj : ¬ (s.size : Int) < 1 := by omega
      have hz : ¬ s.size = 0 := by omega
      clear h0
      go_enter Tryz.func56, Tryz.ntmps56
      go_wp2
      go_ret
      rw [HE.out]
      exact ⟨rfl, rfl⟩
    · have hi : ¬ (200 : Int) < (s.size : Int) := by omega
      have hj : ¬ (s.size : Int) < 1 := by omega
      have hz : ¬ s.size = 0 := by omega
      have hx0 := index_str s 0 0 rfl (by omega)
      have HZ : Aside0 (1 ≤ s.size ∧ s.size ≤ 200) := ⟨by omega⟩
      obtain ⟨b, hb⟩ : ∃ b, b = bt s 0 := ⟨_, rfl⟩
      rw [← hb] at hx0
      have HB := Aside0.mk hb
      clear h0 hb
      by_cases h64 : b = 64
      · have HE : Aside0 (nameB s = false) := ⟨nameB_at (by rw [← HB.out]; exact h64)⟩
        have h64b : (b == 64) = true := beq_iff_eq.2 h64
        clear h64
        go_enter Tryz.func56, Tryz.ntmps56
        go_wp2
        go_ret
        rw [HE.out]
        exact ⟨rfl, rfl⟩
      · have h64b : (b == 64) = false := beq_eq_false_iff_ne.2 h64
        by_cases h46 : b = 46
        · have HE : Aside0 (nameB s = false) := ⟨nameB_dot (by rw [← HB.out]; exact h46)⟩
          have h46b : (b == 46) = true := beq_iff_eq.2 h46
          clear h46 h64
          go_enter Tryz.func56, Tryz.ntmps56
          go_wp2
          go_ret
          rw [HE.out]
          exact ⟨rfl, rfl⟩
        · have h46b : (b == 46) = false := beq_eq_false_iff_ne.2 h46
          have H1 : Aside0 (bt s 0 ≠ 64 ∧ bt s 0 ≠ 46) := ⟨by rw [← HB.out]; exact ⟨h64, h46⟩⟩
          clear h46 h64 HB
          go_enter Tryz.func56, Tryz.ntmps56
          go_wp2
          clear hx0 h64b h46b hi hj hz h1
          go_loop [3] (fun i => ∃ k : Nat, k ≤ s.size ∧ i = .int .i64 k ∧ Aside0 (∀ j : Nat, j < k → nmC (bt s (j : Int)) = false)) (fun i => s.size - (intOf i).toNat)
          case atStart => exact ⟨0, Nat.zero_le _, rfl, ⟨fun j hj => absurd hj (by omega)⟩⟩
          case round =>
            obtain ⟨k, hk, rfl, HA⟩ := hrel
            by_cases hlt : k < s.size
            · have hxk := index_str s k k rfl hlt
              have HW := Aside0.mk (wrap_small k (by have := HZ.out; omega))
              have HBad := Aside0.mk (nameB_bad k hlt)
              have HNx : Aside0 (nmC (bt s (k : Int)) = false → ∀ j : Nat, j < k + 1 → nmC (bt s (j : Int)) = false) := ⟨fun h => nm_next HA.out h⟩
              obtain ⟨c, hc⟩ : ∃ c, c = bt s (k : Int) := ⟨_, rfl⟩
              rw [← hc] at hxk HBad HNx
              clear hc
              by_cases c1 : c < 32
              · have HE : Aside0 (nameB s = false) := ⟨HBad.out (by unfold nmC; rw [decide_eq_true c1]; rfl)⟩
                go_wp2
                go_ret
                rw [HE.out]
                exact ⟨rfl, rfl⟩
              · by_cases c2 : 126 < c
                · have HE : Aside0 (nameB s = false) := ⟨HBad.out (by unfold nmC; rw [decide_eq_true c2]; simp)⟩
                  go_wp2
                  go_ret
                  rw [HE.out]
                  exact ⟨rfl, rfl⟩
                · by_cases c3 : c = 124
                  · have HE : Aside0 (nameB s = false) := ⟨HBad.out (by unfold nmC; rw [c3]; rfl)⟩
                    have c3b : (c == 124) = true := beq_iff_eq.2 c3
                    go_wp2
                    go_ret
                    rw [HE.out]
                    exact ⟨rfl, rfl⟩
                  · have c3b : (c == 124) = false := beq_eq_false_iff_ne.2 c3
                    by_cases c4 : c = 92
                    · have HE : Aside0 (nameB s = false) := ⟨HBad.out (by unfold nmC; rw [c4]; rfl)⟩
                      have c4b : (c == 92) = true := beq_iff_eq.2 c4
                      go_wp2
                      go_ret
                      rw [HE.out]
                      exact ⟨rfl, rfl⟩
                    · have c4b : (c == 92) = false := beq_eq_false_iff_ne.2 c4
                      have HE : Aside0 (nmC c = false) := ⟨by unfold nmC; rw [decide_eq_false c1, decide_eq_false c2, c3b, c4b]; rfl⟩
                      go_wp2
                      go_round
                      case rel => exact ⟨k + 1, hlt, by first | rfl | exact congrArg (Value.int IntKind.i64) HW.out, ⟨HNx.out HE.out⟩⟩
                      case measure => rw [HW.out]; simp [intOf]; omega
            · obtain rfl : k = s.size := by omega
              have HE := Aside0.mk (nameB_ok HZ.out.1 HZ.out.2 H1.out.1 H1.out.2 HA.out)
              go_wp2
              go_ret
              rw [HE.out]
              exact ⟨rfl, rfl⟩
/-- The reserved words, and the text that they stand in. -/
def resL : List ByteArray := [⟨#[33]⟩, ⟨#[95]⟩, ⟨#[97, 115]⟩, ⟨#[66, 73, 78, 65, 82, 89]⟩, ⟨#[68, 69, 67, 73, 77, 65, 76]⟩, ⟨#[101, 120, 105, 115, 116, 115]⟩, ⟨#[102, 111, 114, 97, 108, 108]⟩, ⟨#[72, 69, 88, 65, 68, 69, 67, 73, 77, 65, 76]⟩, ⟨#[108, 101, 116]⟩, ⟨#[109, 97, 116, 99, 104]⟩, ⟨#[78, 85, 77, 69, 82, 65, 76]⟩, ⟨#[112, 97, 114]⟩, ⟨#[83, 84, 82, 73, 78, 71]⟩, ⟨#[97, 115, 115, 101, 114, 116]⟩, ⟨#[99, 104, 101, 99, 107, 45, 115, 97, 116]⟩, ⟨#[99, 104, 101, 99, 107, 45, 115, 97, 116, 45, 97, 115, 115, 117, 109, 105, 110, 103]⟩, ⟨#[100, 101, 99, 108, 97, 114, 101, 45, 99, 111, 110, 115, 116]⟩, ⟨#[100, 101, 99, 108, 97, 114, 101, 45, 100, 97, 116, 97, 116, 121, 112, 101]⟩, ⟨#[100, 101, 99, 108, 97, 114, 101, 45, 100, 97, 116, 97, 116, 121, 112, 101, 115]⟩, ⟨#[100, 101, 99, 108, 97, 114, 101, 45, 102, 117, 110]⟩, ⟨#[100, 101, 99, 108, 97, 114, 101, 45, 115, 111, 114, 116]⟩, ⟨#[100, 101, 102, 105, 110, 101, 45, 102, 117, 110]⟩, ⟨#[100, 101, 102, 105, 110, 101, 45, 115, 111, 114, 116]⟩, ⟨#[101, 99, 104, 111]⟩, ⟨#[101, 120, 105, 116]⟩, ⟨#[103, 101, 116, 45, 97, 115, 115, 101, 114, 116, 105, 111, 110, 115]⟩, ⟨#[103, 101, 116, 45, 105, 110, 102, 111]⟩, ⟨#[103, 101, 116, 45, 109, 111, 100, 101, 108]⟩, ⟨#[103, 101, 116, 45, 118, 97, 108, 117, 101]⟩, ⟨#[112, 111, 112]⟩, ⟨#[112, 117, 115, 104]⟩, ⟨#[114, 101, 115, 101, 116]⟩, ⟨#[114, 101, 115, 101, 116, 45, 97, 115, 115, 101, 114, 116, 105, 111, 110, 115]⟩, ⟨#[115, 101, 116, 45, 105, 110, 102, 111]⟩, ⟨#[115, 101, 116, 45, 108, 111, 103, 105, 99]⟩, ⟨#[115, 101, 116, 45, 111, 112, 116, 105, 111, 110]⟩]
def wordsS : ByteArray := ⟨#[33, 32, 95, 32, 97, 115, 32, 66, 73, 78, 65, 82, 89, 32, 68, 69, 67, 73, 77, 65, 76, 32, 101, 120, 105, 115, 116, 115, 32, 102, 111, 114, 97, 108, 108, 32, 72, 69, 88, 65, 68, 69, 67, 73, 77, 65, 76, 32, 108, 101, 116, 32, 109, 97, 116, 99, 104, 32, 78, 85, 77, 69, 82, 65, 76, 32, 112, 97, 114, 32, 83, 84, 82, 73, 78, 71, 32, 97, 115, 115, 101, 114, 116, 32, 99, 104, 101, 99, 107, 45, 115, 97, 116, 32, 99, 104, 101, 99, 107, 45, 115, 97, 116, 45, 97, 115, 115, 117, 109, 105, 110, 103, 32, 100, 101, 99, 108, 97, 114, 101, 45, 99, 111, 110, 115, 116, 32, 100, 101, 99, 108, 97, 114, 101, 45, 100, 97, 116, 97, 116, 121, 112, 101, 32, 100, 101, 99, 108, 97, 114, 101, 45, 100, 97, 116, 97, 116, 121, 112, 101, 115, 32, 100, 101, 99, 108, 97, 114, 101, 45, 102, 117, 110, 32, 100, 101, 99, 108, 97, 114, 101, 45, 115, 111, 114, 116, 32, 100, 101, 102, 105, 110, 101, 45, 102, 117, 110, 32, 100, 101, 102, 105, 110, 101, 45, 115, 111, 114, 116, 32, 101, 99, 104, 111, 32, 101, 120, 105, 116, 32, 103, 101, 116, 45, 97, 115, 115, 101, 114, 116, 105, 111, 110, 115, 32, 103, 101, 116, 45, 105, 110, 102, 111, 32, 103, 101, 116, 45, 109, 111, 100, 101, 108, 32, 103, 101, 116, 45, 118, 97, 108, 117, 101, 32, 112, 111, 112, 32, 112, 117, 115, 104, 32, 114, 101, 115, 101, 116, 32, 114, 101, 115, 101, 116, 45, 97, 115, 115, 101, 114, 116, 105, 111, 110, 115, 32, 115, 101, 116, 45, 105, 110, 102, 111, 32, 115, 101, 116, 45, 108, 111, 103, 105, 99, 32, 115, 101, 116, 45, 111, 112, 116, 105, 111, 110]⟩
def resB (s : ByteArray) : Bool := Lib.containsS resL s
theorem fields_n : (Lib.fields wordsS.data.toList).map (fun l => (⟨l.toArray⟩ : ByteArray)) = resL := by kernel_rfl
theorem words_ascii : ∀ (j : Nat) b, wordsS.data.toList[j]? = some b → b.toNat < 128 := by
  have h : (wordsS.data.toList.all fun b => decide (b.toNat < 128)) = true := by kernel_rfl
  intro j b hb
  exact of_decide_eq_true (List.all_eq_true.1 h b (List.mem_of_getElem? hb))
abbrev Spaces (w : World) : Prop := Lib.TabIs Tryz.prog w "strings.asciiSpace" .u8 Lib.asciiSpaceTab
theorem spaces_below {w w' : World} (h : Spaces w) (hb : Below w.heap.size w w') : Spaces w' := by
  have hgn : Tryz.prog.globalNamed "strings.asciiSpace" = some 3 := by kernel_rfl
  unfold Spaces Lib.TabIs World.var? at h ⊢
  rw [hgn] at h ⊢
  simp only [Option.bind_some] at h ⊢
  have hlt : 3 < w.heap.size := by
    rcases Nat.lt_or_ge 3 w.heap.size with h' | h'
    · exact h'
    · rw [Array.getElem?_eq_none h'] at h; cases h
  rw [hb.block 3 hlt]
  exact h
theorem fields_res (x : ByteArray) (hx : x = wordsS) (w : World) (htab : Spaces w) : Calls Tryz.prog 111 #[.string x] w fun e w' =>
    e = .returned (.slice (some ⟨w.heap.size, 0, none⟩) 36 36) ∧ w' = w.alloc (.cells (resL.map Value.string).toArray 9) := by
  subst hx
  have h := Tryz.strings_Fields wordsS w (of_decide_eq_true (by kernel_rfl)) words_ascii htab
  have e1 : (Lib.fields wordsS.data.toList).length = 36 := by kernel_rfl
  have e2 : (Lib.fields wordsS.data.toList).map (fun l => Value.string ⟨l.toArray⟩) = resL.map Value.string := by
    rw [← fields_n, List.map_map]
    rfl
  rw [e1, e2] at h
  exact h
set_option maxHeartbeats 4000000 in
set_option maxRecDepth 100000 in
theorem reserved_tells (s : ByteArray) (w : World) (htab : Spaces w) : Calls Tryz.prog 84 #[.string s] w fun e w' => e = .returned (.bool (resB s)) ∧ Below w.heap.size w w' := by
  have HT := Aside0.mk htab
  clear htab
  go_enter Tryz.func84, Tryz.ntmps84
  go_wp2_with fail
  refine (fields_res _ (by kernel_rfl) w HT.out).mono ?_
  rintro e_ w1 ⟨rfl, hw1⟩
  have hk := blk_new w (.cells (resL.map Value.string).toArray 9)
  rw [← hw1] at hk
  have HB1 : Aside0 (Below w.heap.size w w1) := ⟨by rw [hw1]; exact (Below.refl _ _).alloc (Nat.le_refl _) _⟩
  have HC : Aside0 (∀ j : Nat, j < resL.length → w1.cell? ⟨w.heap.size, 0 + j, none⟩ = some (.string (resL.getD j ByteArray.empty))) := ⟨fun j hj => by
    rw [Nat.zero_add]
    refine (blk_cell hk j).trans ?_
    rw [List.getElem?_toArray, List.getElem?_map, List.getD_eq_getElem?_getD, List.getElem?_eq_getElem hj]
    rfl⟩
  clear hw1 hk
  go_wp2_with fail
  refine (Tryz.slices_Contains_string w.heap.size 0 36 36 resL s w1 (by decide) (by decide) HC.out).mono ?_
  rintro e_ w2 ⟨rfl, rfl⟩
  have hr : Lib.containsS (resL.take 36) s = resB s := rfl
  rw [hr]
  clear hr
  go_wp2
  go_ret
  exact ⟨rfl, HB1.out⟩
/-! Simple names -/
def letB (c : Int) : Bool := decide (97 ≤ bits .or .u8 c 32) && decide (bits .or .u8 c 32 ≤ 122)
def digC (c : Int) : Bool := decide (48 ≤ c) && decide (c ≤ 57)
theorem letter_tells (c : Int) (w : World) : Calls Tryz.prog 82 #[.int .u8 c] w fun e w' => e = .returned (.bool (letB c)) ∧ w' = w := by
  by_cases h1 : 97 ≤ bits .or .u8 c 32
  · by_cases h2 : bits .or .u8 c 32 ≤ 122
    · have HE : Aside0 (letB c = true) := ⟨by unfold letB; rw [decide_eq_true h1, decide_eq_true h2]; rfl⟩
      go_enter Tryz.func82, Tryz.ntmps82
      go_wp2
      go_ret
      rw [HE.out]
      exact ⟨rfl, rfl⟩
    · have HE : Aside0 (letB c = false) := ⟨by unfold letB; rw [decide_eq_false h2, Bool.and_false]⟩
      go_enter Tryz.func82, Tryz.ntmps82
      go_wp2
      go_ret
      rw [HE.out]
      exact ⟨rfl, rfl⟩
  · have HE : Aside0 (letB c = false) := ⟨by unfold letB; rw [decide_eq_false h1, Bool.false_and]⟩
    go_enter Tryz.func82, Tryz.ntmps82
    go_wp2
    go_ret
    rw [HE.out]
    exact ⟨rfl, rfl⟩
def marksS : ByteArray := ⟨#[126, 33, 64, 36, 37, 94, 38, 42, 95, 45, 43, 61, 60, 62, 46, 63, 47]⟩
theorem marks_n : ∀ c : Fin 256, decide (Lib.indexByte marksS.data.toList ((c.val : Int)).toNat.toUInt8 < 0) = !markB c.val := by decide +kernel
theorem class_n : ∀ c : Fin 256, simpleB c.val = (letB c.val || digC c.val || markB c.val) := by decide +kernel
def smpB (s : ByteArray) : Bool := nameB s && !digC (bt s 0) && (List.range s.size).all (fun k => simpleB (bt s (k : Int))) && !resB s
theorem smp_name {s : ByteArray} (h : nameB s = false) : smpB s = false := by
  unfold smpB; rw [h]; simp
theorem smp_digit {s : ByteArray} (h : 48 ≤ bt s 0) (h2 : bt s 0 ≤ 57) : smpB s = false := by
  unfold smpB digC; rw [decide_eq_true h, decide_eq_true h2]; simp
theorem smp_bad {s : ByteArray} (k : Nat) (hk : k < s.size) (h : simpleB (bt s (k : Int)) = false) : smpB s = false := by
  have : (List.range s.size).all (fun k => simpleB (bt s (k : Int))) = false := by
    rw [List.all_eq_false]
    exact ⟨k, List.mem_range.2 hk, by rw [h]; decide⟩
  unfold smpB
  rw [this]
  simp
theorem smp_res {s : ByteArray} (h : resB s = true) : smpB s = false := by
  unfold smpB; rw [h]; simp
theorem smp_all {s : ByteArray} (hn : nameB s = true) (hd : digC (bt s 0) = false) (h : ∀ j : Nat, j < s.size → simpleB (bt s (j : Int)) = true) : smpB s = !resB s := by
  have h5 : (List.range s.size).all (fun k => simpleB (bt s (k : Int))) = true := by
    rw [List.all_eq_true]
    intro k hk
    exact h k (List.mem_range.1 hk)
  unfold smpB
  rw [hn, hd, h5]
  rfl
theorem smp_next {s : ByteArray} {k : Nat} (h : ∀ j : Nat, j < k → simpleB (bt s (j : Int)) = true) (hk : simpleB (bt s (k : Int)) = true) : ∀ j : Nat, j < k + 1 → simpleB (bt s (j : Int)) = true := by
  intro j hj
  rcases Nat.lt_or_ge j k with h1 | h1
  · exact h j h1
  · obtain rfl : j = k := by omega
    exact hk
set_option maxHeartbeats 4000000 in
set_option maxRecDepth 100000 in
theorem simple_tells (s : ByteArray) (w : World) (htab : Spaces w) : Calls Tryz.prog 55 #[.string s] w fun e w' => e = .returned (.bool (smpB s)) ∧ Below w.heap.size w w' := by
  have HT := Aside0.mk htab
  clear htab
  cases hn : nameB s with
  | false =>
    have HE := Aside0.mk (smp_name hn)
    go_enter Tryz.func55, Tryz.ntmps55
    go_wp2_with fail
    refine (name_tells s w).mono ?_
    rintro e_ w1 ⟨rfl, rfl⟩
    rw [hn]
    go_wp2
    go_ret
    rw [HE.out]
    exact ⟨rfl, Below.refl _ _⟩
  | true =>
    have HN := Aside0.mk hn
    have HZ := Aside0.mk (name_size hn)
    have hx0 := index_str s 0 0 rfl (by have := HZ.out; omega)
    obtain ⟨b, hb⟩ : ∃ b, b = bt s 0 := ⟨_, rfl⟩
    rw [← hb] at hx0
    have HB := Aside0.mk hb
    go_enter Tryz.func55, Tryz.ntmps55
    go_wp2_with fail
    refine (name_tells s w).mono ?_
    rintro e_ w1 ⟨rfl, rfl⟩
    rw [hn]
    clear hn hb
    by_cases h48 : 48 ≤ b
    · by_cases h57 : b ≤ 57
      · have HE : Aside0 (smpB s = false) := ⟨smp_digit (by rw [← HB.out]; exact h48) (by rw [← HB.out]; exact h57)⟩
        go_wp2
        go_ret
        rw [HE.out]
        exact ⟨rfl, Below.refl _ _⟩
      · have HD : Aside0 (digC (bt s 0) = false) := ⟨by rw [← HB.out]; unfold digC; rw [decide_eq_false h57, Bool.and_false]⟩
        go_wp2
        clear hx0 h48
        go_loop [20] (fun i => ∃ k : Nat, k ≤ s.size ∧ i = .int .i64 k ∧ Aside0 (∀ j : Nat, j < k → simpleB (bt s (j : Int)) = true)) (fun i => s.size - (intOf i).toNat)
        case atStart => exact ⟨0, Nat.zero_le _, rfl, ⟨fun j hj => absurd hj (by omega)⟩⟩
        case round =>
          obtain ⟨k, hk, rfl, HA⟩ := hrel
          by_cases hlt : k < s.size
          · have hxk := index_str s k k rfl hlt
            have HW := Aside0.mk (wrap_small k (by have := HZ.out; omega))
            have HBad := Aside0.mk (smp_bad k hlt)
            have HNx : Aside0 (simpleB (bt s (k : Int)) = true → ∀ j : Nat, j < k + 1 → simpleB (bt s (j : Int)) = true) := ⟨fun h => smp_next HA.out h⟩
            obtain ⟨cn, hcn, hce⟩ := bt_byte s k
            have hM := marks_n ⟨cn, hcn⟩
            have hK := class_n ⟨cn, hcn⟩
            obtain ⟨c, hc⟩ : ∃ c, c = bt s (k : Int) := ⟨_, rfl⟩
            rw [← hc] at hxk HBad HNx hce
            change decide (Lib.indexByte marksS.data.toList ((cn : Int)).toNat.toUInt8 < 0) = !markB cn at hM
            change simpleB cn = (letB cn || digC cn || markB cn) at hK
            rw [← hce] at hM hK
            have HM := Aside0.mk hM
            have HK := Aside0.mk hK
            clear hc hce hcn hM hK
            go_wp2_with fail
            refine (letter_tells c _).mono ?_
            rintro e_ w2 ⟨rfl, rfl⟩
            cases hl : letB c with
            | true =>
              have HE : Aside0 (simpleB c = true) := ⟨by rw [HK.out, hl]; rfl⟩
              go_wp2
              go_round
              case rel => exact ⟨k + 1, hlt, by first | rfl | exact congrArg (Value.int IntKind.i64) HW.out, ⟨HNx.out HE.out⟩⟩
              case measure => rw [HW.out]; simp [intOf]; omega
            | false =>
              by_cases c1 : c < 48
              · have HK2 : Aside0 (simpleB c = markB c) := ⟨by rw [HK.out, hl]; unfold digC; rw [decide_eq_false (show ¬ 48 ≤ c by omega)]; rfl⟩
                go_wp2_with fail
                refine (Tryz.strings_IndexByte marksS c _).mono ?_
                rintro e_ w2 ⟨rfl, rfl⟩
                obtain ⟨x, hx⟩ : ∃ x, x = Lib.indexByte marksS.data.toList c.toNat.toUInt8 := ⟨_, rfl⟩
                have HX : Aside0 (decide (x < 0) = !markB c) := ⟨by rw [hx]; exact HM.out⟩
                rw [← hx]
                clear hx
                by_cases hx0 : x < 0
                · have HE : Aside0 (smpB s = false) := ⟨HBad.out (by rw [HK2.out]; have := HX.out; rw [decide_eq_true hx0] at this; simpa using this.symm)⟩
                  go_wp2
                  go_ret
                  rw [HE.out]
                  exact ⟨rfl, Below.refl _ _⟩
                · have HE : Aside0 (simpleB c = true) := ⟨by rw [HK2.out]; have := HX.out; rw [decide_eq_false hx0] at this; simpa using this.symm⟩
                  go_wp2
                  go_round
                  case rel => exact ⟨k + 1, hlt, by first | rfl | exact congrArg (Value.int IntKind.i64) HW.out, ⟨HNx.out HE.out⟩⟩
                  case measure => rw [HW.out]; simp [intOf]; omega
              · by_cases c2 : 57 < c
                · have HK2 : Aside0 (simpleB c = markB c) := ⟨by rw [HK.out, hl]; unfold digC; rw [decide_eq_false (show ¬ c ≤ 57 by omega), Bool.and_false]; rfl⟩
                  go_wp2_with fail
                  refine (Tryz.strings_IndexByte marksS c _).mono ?_
                  rintro e_ w2 ⟨rfl, rfl⟩
                  obtain ⟨x, hx⟩ : ∃ x, x = Lib.indexByte marksS.data.toList c.toNat.toUInt8 := ⟨_, rfl⟩
                  have HX : Aside0 (decide (x < 0) = !markB c) := ⟨by rw [hx]; exact HM.out⟩
                  rw [← hx]
                  clear hx
                  by_cases hx0 : x < 0
                  · have HE : Aside0 (smpB s = false) := ⟨HBad.out (by rw [HK2.out]; have := HX.out; rw [decide_eq_true hx0] at this; simpa using this.symm)⟩
                    go_wp2
                    go_ret
                    rw [HE.out]
                    exact ⟨rfl, Below.refl _ _⟩
                  · have HE : Aside0 (simpleB c = true) := ⟨by rw [HK2.out]; have := HX.out; rw [decide_eq_false hx0] at this; simpa using this.symm⟩
                    go_wp2
                    go_round
                    case rel => exact ⟨k + 1, hlt, by first | rfl | exact congrArg (Value.int IntKind.i64) HW.out, ⟨HNx.out HE.out⟩⟩
                    case measure => rw [HW.out]; simp [intOf]; omega
                · have HE : Aside0 (simpleB c = true) := ⟨by rw [HK.out, hl]; unfold digC; rw [decide_eq_true (show 48 ≤ c by omega), decide_eq_true (show c ≤ 57 by omega)]; rfl⟩
                  go_wp2
                  go_round
                  case rel => exact ⟨k + 1, hlt, by first | rfl | exact congrArg (Value.int IntKind.i64) HW.out, ⟨HNx.out HE.out⟩⟩
                  case measure => rw [HW.out]; simp [intOf]; omega
          · obtain rfl : k = s.size := by omega
            have HE := Aside0.mk (smp_all HN.out HD.out HA.out)
            go_wp2_with fail
            refine (reserved_tells s _ HT.out).mono ?_
            rintro e_ w2 ⟨rfl, hb⟩
            have HB2 := Aside0.mk hb
            clear hb
            obtain ⟨r, hr⟩ : ∃ r, r = resB s := ⟨_, rfl⟩
            rw [← hr] at HE ⊢
            clear hr
            go_wp2
            go_ret
            rw [HE.out]
            exact ⟨rfl, HB2.out⟩
    · have HD : Aside0 (digC (bt s 0) = false) := ⟨by rw [← HB.out]; unfold digC; rw [decide_eq_false h48, Bool.false_and]⟩
      go_wp2
      clear hx0 h48
      go_loop [20] (fun i => ∃ k : Nat, k ≤ s.size ∧ i = .int .i64 k ∧ Aside0 (∀ j : Nat, j < k → simpleB (bt s (j : Int)) = true)) (fun i => s.size - (intOf i).toNat)
      case atStart => exact ⟨0, Nat.zero_le _, rfl, ⟨fun j hj => absurd hj (by omega)⟩⟩
      case round =>
        obtain ⟨k, hk, rfl, HA⟩ := hrel
        by_cases hlt : k < s.size
        · have hxk := index_str s k k rfl hlt
          have HW := Aside0.mk (wrap_small k (by have := HZ.out; omega))
          have HBad := Aside0.mk (smp_bad k hlt)
          have HNx : Aside0 (simpleB (bt s (k : Int)) = true → ∀ j : Nat, j < k + 1 → simpleB (bt s (j : Int)) = true) := ⟨fun h => smp_next HA.out h⟩
          obtain ⟨cn, hcn, hce⟩ := bt_byte s k
          have hM := marks_n ⟨cn, hcn⟩
          have hK := class_n ⟨cn, hcn⟩
          obtain ⟨c, hc⟩ : ∃ c, c = bt s (k : Int) := ⟨_, rfl⟩
          rw [← hc] at hxk HBad HNx hce
          change decide (Lib.indexByte marksS.data.toList ((cn : Int)).toNat.toUInt8 < 0) = !markB cn at hM
          change simpleB cn = (letB cn || digC cn || markB cn) at hK
          rw [← hce] at hM hK
          have HM := Aside0.mk hM
          have HK := Aside0.mk hK
          clear hc hce hcn hM hK
          go_wp2_with fail
          refine (letter_tells c _).mono ?_
          rintro e_ w2 ⟨rfl, rfl⟩
          cases hl : letB c with
          | true =>
            have HE : Aside0 (simpleB c = true) := ⟨by rw [HK.out, hl]; rfl⟩
            go_wp2
            go_round
            case rel => exact ⟨k + 1, hlt, by first | rfl | exact congrArg (Value.int IntKind.i64) HW.out, ⟨HNx.out HE.out⟩⟩
            case measure => rw [HW.out]; simp [intOf]; omega
          | false =>
            by_cases c1 : c < 48
            · have HK2 : Aside0 (simpleB c = markB c) := ⟨by rw [HK.out, hl]; unfold digC; rw [decide_eq_false (show ¬ 48 ≤ c by omega)]; rfl⟩
              go_wp2_with fail
              refine (Tryz.strings_IndexByte marksS c _).mono ?_
              rintro e_ w2 ⟨rfl, rfl⟩
              obtain ⟨x, hx⟩ : ∃ x, x = Lib.indexByte marksS.data.toList c.toNat.toUInt8 := ⟨_, rfl⟩
              have HX : Aside0 (decide (x < 0) = !markB c) := ⟨by rw [hx]; exact HM.out⟩
              rw [← hx]
              clear hx
              by_cases hx0 : x < 0
              · have HE : Aside0 (smpB s = false) := ⟨HBad.out (by rw [HK2.out]; have := HX.out; rw [decide_eq_true hx0] at this; simpa using this.symm)⟩
                go_wp2
                go_ret
                rw [HE.out]
                exact ⟨rfl, Below.refl _ _⟩
              · have HE : Aside0 (simpleB c = true) := ⟨by rw [HK2.out]; have := HX.out; rw [decide_eq_false hx0] at this; simpa using this.symm⟩
                go_wp2
                go_round
                case rel => exact ⟨k + 1, hlt, by first | rfl | exact congrArg (Value.int IntKind.i64) HW.out, ⟨HNx.out HE.out⟩⟩
                case measure => rw [HW.out]; simp [intOf]; omega
            · by_cases c2 : 57 < c
              · have HK2 : Aside0 (simpleB c = markB c) := ⟨by rw [HK.out, hl]; unfold digC; rw [decide_eq_false (show ¬ c ≤ 57 by omega), Bool.and_false]; rfl⟩
                go_wp2_with fail
                refine (Tryz.strings_IndexByte marksS c _).mono ?_
                rintro e_ w2 ⟨rfl, rfl⟩
                obtain ⟨x, hx⟩ : ∃ x, x = Lib.indexByte marksS.data.toList c.toNat.toUInt8 := ⟨_, rfl⟩
                have HX : Aside0 (decide (x < 0) = !markB c) := ⟨by rw [hx]; exact HM.out⟩
                rw [← hx]
                clear hx
                by_cases hx0 : x < 0
                · have HE : Aside0 (smpB s = false) := ⟨HBad.out (by rw [HK2.out]; have := HX.out; rw [decide_eq_true hx0] at this; simpa using this.symm)⟩
                  go_wp2
                  go_ret
                  rw [HE.out]
                  exact ⟨rfl, Below.refl _ _⟩
                · have HE : Aside0 (simpleB c = true) := ⟨by rw [HK2.out]; have := HX.out; rw [decide_eq_false hx0] at this; simpa using this.symm⟩
                  go_wp2
                  go_round
                  case rel => exact ⟨k + 1, hlt, by first | rfl | exact congrArg (Value.int IntKind.i64) HW.out, ⟨HNx.out HE.out⟩⟩
                  case measure => rw [HW.out]; simp [intOf]; omega
              · have HE : Aside0 (simpleB c = true) := ⟨by rw [HK.out, hl]; unfold digC; rw [decide_eq_true (show 48 ≤ c by omega), decide_eq_true (show c ≤ 57 by omega)]; rfl⟩
                go_wp2
                go_round
                case rel => exact ⟨k + 1, hlt, by first | rfl | exact congrArg (Value.int IntKind.i64) HW.out, ⟨HNx.out HE.out⟩⟩
                case measure => rw [HW.out]; simp [intOf]; omega
        · obtain rfl : k = s.size := by omega
          have HE := Aside0.mk (smp_all HN.out HD.out HA.out)
          go_wp2_with fail
          refine (reserved_tells s _ HT.out).mono ?_
          rintro e_ w2 ⟨rfl, hb⟩
          have HB2 := Aside0.mk hb
          clear hb
          obtain ⟨r, hr⟩ : ∃ r, r = resB s := ⟨_, rfl⟩
          rw [← hr] at HE ⊢
          clear hr
          go_wp2
          go_ret
          rw [HE.out]
          exact ⟨rfl, HB2.out⟩
/-! The reference's -/
theorem bytes_eq (x s : ByteArray) : x.toList = s.toList ↔ x = s := by
  rw [Lib.toList_data, Lib.toList_data]
  constructor
  · intro h
    cases x; cases s
    simp only [Array.toList_inj] at h
    rw [h]
  · intro h; rw [h]
theorem has_told (L : List ByteArray) (hL : L.length ≤ 200) (s : ByteArray) : ∀ (d i : Nat), i + d = L.length → ∃ K, tribunalref04_has.l0 K L s (i : Int) = some (Lib.containsS (L.drop i) s)
  | 0, i, hi => ⟨1, by
    rw [tribunalref04_has.l0, if_neg (by omega), List.drop_eq_nil_of_le (by omega)]
    cases hc : Lib.containsS [] s with
    | false => rfl
    | true => exact absurd ((Lib.containsS_iff _ _).1 hc) (by simp)⟩
  | d + 1, i, hi => by
    obtain ⟨K, hK⟩ := has_told L hL s d (i + 1) (by omega)
    have hd : L.drop i = rdOf ByteArray.empty L (i : Int) :: L.drop (i + 1) := by
      rw [List.drop_eq_getElem_cons (by omega)]
      unfold rdOf
      rw [Int.toNat_natCast, List.getD_eq_getElem?_getD, List.getElem?_eq_getElem (by omega)]
      rfl
    refine ⟨K + 1, ?_⟩
    rw [tribunalref04_has.l0, if_pos (by omega), if_pos (by omega), hd]
    by_cases h : (rdOf ByteArray.empty L (i : Int)).toList = s.toList
    · rw [if_pos h, (Lib.containsS_iff _ _).2 (List.mem_cons.2 (.inl ((bytes_eq _ _).1 h).symm))]
    · have h2 : ¬ s = rdOf ByteArray.empty L (i : Int) := fun e => h ((bytes_eq _ _).2 e.symm)
      rw [if_neg h, wrap_small i (by omega), show ((i : Int) + 1) = ((i + 1 : Nat) : Int) by omega, hK]
      congr 1
      rw [Bool.eq_iff_iff, Lib.containsS_iff, Lib.containsS_iff, List.mem_cons]
      exact ⟨.inr, fun h => h.resolve_left h2⟩
theorem reserved_f (s : ByteArray) : ∃ K, tribunalref04_Reserved.f K s = some (resB s) := by
  obtain ⟨K, hK⟩ := has_told resL (by decide) s resL.length 0 (by omega)
  refine ⟨K, ?_⟩
  have h2 : tribunalref04_has.l0 K resL s 0 = some (resB s) := hK
  unfold tribunalref04_Reserved.f tribunalref04_has.f
  exact (congrArg (fun o => o.bind fun t => some t) h2).trans rfl
set_option maxHeartbeats 4000000 in
set_option maxRecDepth 100000 in
theorem rsimple_tells (s : ByteArray) (w : World) : Calls Tryz.prog 40 #[.string s] w fun e w' => e = .returned (.bool (smpB s)) ∧ Below w.heap.size w w' := by
  cases hn : nameB s with
  | false =>
    have HE := Aside0.mk (smp_name hn)
    go_enter Tryz.func40, Tryz.ntmps40
    go_wp2_with fail
    refine (rname_tells s w).mono ?_
    rintro e_ w1 ⟨rfl, rfl⟩
    rw [hn]
    go_wp2
    go_ret
    rw [HE.out]
    exact ⟨rfl, Below.refl _ _⟩
  | true =>
    have HN := Aside0.mk hn
    have HZ := Aside0.mk (name_size hn)
    have hx0 := index_str s 0 0 rfl (by have := HZ.out; omega)
    obtain ⟨b, hb⟩ : ∃ b, b = bt s 0 := ⟨_, rfl⟩
    rw [← hb] at hx0
    have HB := Aside0.mk hb
    go_enter Tryz.func40, Tryz.ntmps40
    go_wp2_with fail
    refine (rname_tells s w).mono ?_
    rintro e_ w1 ⟨rfl, rfl⟩
    rw [hn]
    clear hn hb
    by_cases h48 : 48 ≤ b
    · by_cases h57 : b ≤ 57
      · have HE : Aside0 (smpB s = false) := ⟨smp_digit (by rw [← HB.out]; exact h48) (by rw [← HB.out]; exact h57)⟩
        go_wp2
        go_ret
        rw [HE.out]
        exact ⟨rfl, Below.refl _ _⟩
      · have HD : Aside0 (digC (bt s 0) = false) := ⟨by rw [← HB.out]; unfold digC; rw [decide_eq_false h57, Bool.and_false]⟩
        obtain ⟨K, hK⟩ := reserved_f s
        have HRK := Aside0.mk hK
        clear hK
        go_wp2_with fail
        refine (tribunalref04_Reserved.calls K s (resB s) _ HRK.out).mono ?_
        rintro e_ w2 ⟨rfl, hb⟩
        have HB2 := Aside0.mk hb
        clear hb
        cases hr : resB s with
        | true =>
          have HE := Aside0.mk (smp_res hr)
          go_wp2
          go_ret
          rw [HE.out]
          exact ⟨rfl, HB2.out⟩
        | false =>
          have HRs := Aside0.mk hr
          clear hr
          go_wp2
          clear hx0 h48
          go_loopw [4] (fun i wr => ∃ k : Nat, k ≤ s.size ∧ i = .int .i64 k ∧ Aside0 (∀ j : Nat, j < k → simpleB (bt s (j : Int)) = true) ∧ Aside0 (Below w1.heap.size w1 wr)) (fun i _ => s.size - (intOf i).toNat)
          case atStart => exact ⟨0, Nat.zero_le _, rfl, ⟨fun j hj => absurd hj (by omega)⟩, HB2⟩
          case round =>
            clear HB2
            obtain ⟨k, hk, rfl, HA, HBr⟩ := hrel
            by_cases hlt : k < s.size
            · have hxk := index_str s k k rfl hlt
              have HW := Aside0.mk (wrap_small k (by have := HZ.out; omega))
              have HBad := Aside0.mk (smp_bad k hlt)
              have HNx : Aside0 (simpleB (bt s (k : Int)) = true → ∀ j : Nat, j < k + 1 → simpleB (bt s (j : Int)) = true) := ⟨fun h => smp_next HA.out h⟩
              obtain ⟨cn, hcn, hce⟩ := bt_byte s k
              have hM := simple_n ⟨cn, hcn⟩
              obtain ⟨c, hc⟩ : ∃ c, c = bt s (k : Int) := ⟨_, rfl⟩
              rw [← hc] at hxk HBad HNx hce
              change tribunalref04_SimpleByte.f 20 (cn : Int) = some (simpleB cn) at hM
              rw [← hce] at hM
              have HM := Aside0.mk hM
              clear hc hce hcn hM
              go_wp2_with fail
              refine (tribunalref04_SimpleByte.calls 20 c (simpleB c) _ HM.out).mono ?_
              rintro e_ w3 ⟨rfl, n, rfl⟩
              have HB3 : Aside0 (Below w1.heap.size w1 (wr.drewN n)) := ⟨pw_below_drewN HBr.out n⟩
              cases hs : simpleB c with
              | true =>
                go_wp2
                go_roundw
                case rel => exact ⟨k + 1, hlt, by first | rfl | exact congrArg (Value.int IntKind.i64) HW.out, ⟨HNx.out hs⟩, HB3⟩
                case measure => rw [HW.out]; simp [intOf]; omega
              | false =>
                have HE : Aside0 (smpB s = false) := ⟨HBad.out hs⟩
                go_wp2
                go_ret
                rw [HE.out]
                exact ⟨rfl, HB3.out⟩
            · obtain rfl : k = s.size := by omega
              have HE : Aside0 (smpB s = true) := ⟨by rw [smp_all HN.out HD.out HA.out, HRs.out]; rfl⟩
              go_wp2
              go_ret
              rw [HE.out]
              exact ⟨rfl, HBr.out⟩
    · have HD : Aside0 (digC (bt s 0) = false) := ⟨by rw [← HB.out]; unfold digC; rw [decide_eq_false h48, Bool.false_and]⟩
      obtain ⟨K, hK⟩ := reserved_f s
      have HRK := Aside0.mk hK
      clear hK
      go_wp2_with fail
      refine (tribunalref04_Reserved.calls K s (resB s) _ HRK.out).mono ?_
      rintro e_ w2 ⟨rfl, hb⟩
      have HB2 := Aside0.mk hb
      clear hb
      cases hr : resB s with
      | true =>
        have HE := Aside0.mk (smp_res hr)
        go_wp2
        go_ret
        rw [HE.out]
        exact ⟨rfl, HB2.out⟩
      | false =>
        have HRs := Aside0.mk hr
        clear hr
        go_wp2
        clear hx0 h48
        go_loopw [4] (fun i wr => ∃ k : Nat, k ≤ s.size ∧ i = .int .i64 k ∧ Aside0 (∀ j : Nat, j < k → simpleB (bt s (j : Int)) = true) ∧ Aside0 (Below w1.heap.size w1 wr)) (fun i _ => s.size - (intOf i).toNat)
        case atStart => exact ⟨0, Nat.zero_le _, rfl, ⟨fun j hj => absurd hj (by omega)⟩, HB2⟩
        case round =>
          clear HB2
          obtain ⟨k, hk, rfl, HA, HBr⟩ := hrel
          by_cases hlt : k < s.size
          · have hxk := index_str s k k rfl hlt
            have HW := Aside0.mk (wrap_small k (by have := HZ.out; omega))
            have HBad := Aside0.mk (smp_bad k hlt)
            have HNx : Aside0 (simpleB (bt s (k : Int)) = true → ∀ j : Nat, j < k + 1 → simpleB (bt s (j : Int)) = true) := ⟨fun h => smp_next HA.out h⟩
            obtain ⟨cn, hcn, hce⟩ := bt_byte s k
            have hM := simple_n ⟨cn, hcn⟩
            obtain ⟨c, hc⟩ : ∃ c, c = bt s (k : Int) := ⟨_, rfl⟩
            rw [← hc] at hxk HBad HNx hce
            change tribunalref04_SimpleByte.f 20 (cn : Int) = some (simpleB cn) at hM
            rw [← hce] at hM
            have HM := Aside0.mk hM
            clear hc hce hcn hM
            go_wp2_with fail
            refine (tribunalref04_SimpleByte.calls 20 c (simpleB c) _ HM.out).mono ?_
            rintro e_ w3 ⟨rfl, n, rfl⟩
            have HB3 : Aside0 (Below w1.heap.size w1 (wr.drewN n)) := ⟨pw_below_drewN HBr.out n⟩
            cases hs : simpleB c with
            | true =>
              go_wp2
              go_roundw
              case rel => exact ⟨k + 1, hlt, by first | rfl | exact congrArg (Value.int IntKind.i64) HW.out, ⟨HNx.out hs⟩, HB3⟩
              case measure => rw [HW.out]; simp [intOf]; omega
            | false =>
              have HE : Aside0 (smpB s = false) := ⟨HBad.out hs⟩
              go_wp2
              go_ret
              rw [HE.out]
              exact ⟨rfl, HB3.out⟩
          · obtain rfl : k = s.size := by omega
            have HE : Aside0 (smpB s = true) := ⟨by rw [smp_all HN.out HD.out HA.out, HRs.out]; rfl⟩
            go_wp2
            go_ret
            rw [HE.out]
            exact ⟨rfl, HBr.out⟩
/-- A symbol as it is written. -/
def quotedS (s : ByteArray) : ByteArray := if smpB s = true then s else ((⟨#[124]⟩ : ByteArray) ++ s) ++ (⟨#[124]⟩ : ByteArray)
set_option maxHeartbeats 4000000 in
set_option maxRecDepth 100000 in
theorem quote_tells (s : ByteArray) (hz : s.size ≤ 1099511627776) (w : World) (htab : Spaces w) : Calls Tryz.prog 39 #[.string s] w fun e w' => e = .returned (.string (quotedS s)) ∧ Below w.heap.size w w' := by
  have HT := Aside0.mk htab
  clear htab
  go_enter Tryz.func39, Tryz.ntmps39
  go_wp2_with fail
  refine (simple_tells s w HT.out).mono ?_
  rintro e_ w1 ⟨rfl, hb⟩
  have HB1 := Aside0.mk hb
  clear hb
  cases hs : smpB s with
  | true =>
    have HE : Aside0 (quotedS s = s) := ⟨by unfold quotedS; rw [if_pos hs]⟩
    go_wp2
    go_ret
    rw [HE.out]
    exact ⟨rfl, HB1.out⟩
  | false =>
    have HE : Aside0 (quotedS s = ((⟨#[124]⟩ : ByteArray) ++ s) ++ (⟨#[124]⟩ : ByteArray)) := ⟨by unfold quotedS; rw [if_neg (by rw [hs]; decide)]⟩
    have hz2 : ((⟨#[124]⟩ : ByteArray) ++ s).size ≤ 1099511627777 := by rw [ByteArray.size_append]; show 1 + _ ≤ _; omega
    go_wp2
    go_ret
    rw [HE.out]
    exact ⟨rfl, HB1.out⟩
set_option maxHeartbeats 4000000 in
set_option maxRecDepth 100000 in
theorem rquote_tells (s : ByteArray) (hz : s.size ≤ 1099511627776) (w : World) : Calls Tryz.prog 20 #[.string s] w fun e w' => e = .returned (.string (quotedS s)) ∧ Below w.heap.size w w' := by
  go_enter Tryz.func20, Tryz.ntmps20
  go_wp2_with fail
  refine (rsimple_tells s w).mono ?_
  rintro e_ w1 ⟨rfl, hb⟩
  have HB1 := Aside0.mk hb
  clear hb
  cases hs : smpB s with
  | true =>
    have HE : Aside0 (quotedS s = s) := ⟨by unfold quotedS; rw [if_pos hs]⟩
    go_wp2
    go_ret
    rw [HE.out]
    exact ⟨rfl, HB1.out⟩
  | false =>
    have HE : Aside0 (quotedS s = ((⟨#[124]⟩ : ByteArray) ++ s) ++ (⟨#[124]⟩ : ByteArray)) := ⟨by unfold quotedS; rw [if_neg (by rw [hs]; decide)]⟩
    have hz2 : ((⟨#[124]⟩ : ByteArray) ++ s).size ≤ 1099511627777 := by rw [ByteArray.size_append]; show 1 + _ ≤ _; omega
    go_wp2
    go_ret
    rw [HE.out]
    exact ⟨rfl, HB1.out⟩
theorem symbol_tells (s : ByteArray) (hz : s.size ≤ 1099511627776) (w : World) (htab : Spaces w) : Calls Tryz.prog 19 #[.string s] w fun e w' => e = .returned (.string (quotedS s)) ∧ Below w.heap.size w w' := by
  have HT := Aside0.mk htab
  clear htab
  go_enter Tryz.func19, Tryz.ntmps19
  go_wp2_with fail
  refine (quote_tells s hz w HT.out).mono ?_
  rintro e_ w1 ⟨rfl, hb⟩
  go_wp2
  go_ret
  exact ⟨rfl, hb⟩
end Go.Proofs.YthklnopfgoekeaaGreatDoor.X
