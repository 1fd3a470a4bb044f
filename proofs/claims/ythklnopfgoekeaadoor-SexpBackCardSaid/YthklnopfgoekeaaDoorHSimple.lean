import Derived.Test.YthklnopfgoekeaaDoorX2
namespace Go.Proofs.YthklnopfgoekeaaDoor.X
open Go.RowKit Go.Proofs.YthklnopfgoekeaaDoorW.PrintWords Go.Proofs.YthklnopfgoekeaaDoorW.PrintLast Go.Proofs.YthklnopfgoekeaaDoorW.PrintMore
set_option linter.unusedVariables false

def markL : List Int := [126, 33, 64, 36, 37, 94, 38, 42, 95, 45, 43, 61, 60, 62, 46, 63, 47]
def markAt (k : Nat) : Int := markL.getD k 0
def marksV : Value := .agg #[.int .u8 126, .int .u8 33, .int .u8 64, .int .u8 36, .int .u8 37, .int .u8 94, .int .u8 38, .int .u8 42, .int .u8 95, .int .u8 45, .int .u8 43, .int .u8 61, .int .u8 60, .int .u8 62, .int .u8 46, .int .u8 63, .int .u8 47]

theorem marks_calls (w : World) : Calls Tryd.prog 76 #[] w fun e w' => e = .returned marksV ∧ Below w.heap.size w w' := by
  go_enter Tryd.func76, Tryd.ntmps76
  go_wp2
  refine bodyPost_ret (v := marksV) (by simp [results, Tryd.results76, go_sem, marksV]) rfl ?_
  exact ⟨rfl, (Below.refl _ _).alloc (Nat.le_refl _) _⟩
theorem marks_index (k : Nat) (hk : k < 17) : ∀ w : World, (Instr.index 113 marksV (.int .i64 k)).run Tryd.prog w = .ok (.int .u8 (markAt k)) w := by
  rcases k with _ | _ | _ | _ | _ | _ | _ | _ | _ | _ | _ | _ | _ | _ | _ | _ | _ | k
  · intro w; kernel_rfl
  · intro w; kernel_rfl
  · intro w; kernel_rfl
  · intro w; kernel_rfl
  · intro w; kernel_rfl
  · intro w; kernel_rfl
  · intro w; kernel_rfl
  · intro w; kernel_rfl
  · intro w; kernel_rfl
  · intro w; kernel_rfl
  · intro w; kernel_rfl
  · intro w; kernel_rfl
  · intro w; kernel_rfl
  · intro w; kernel_rfl
  · intro w; kernel_rfl
  · intro w; kernel_rfl
  · intro w; kernel_rfl
  · omega

def markB (c : Int) : Bool := markL.contains c
def simpleB (c : Int) : Bool := (decide (48 ≤ c) && decide (c ≤ 57)) || (decide (97 ≤ bits .or .u8 c 32) && decide (bits .or .u8 c 32 ≤ 122)) || markB c
def lexis_simple.f (a0 : Int) : Option (Bool) := some (simpleB a0)
theorem digit_true (a0 : Int) (h : decide (48 ≤ a0) = true) (h2 : decide (a0 ≤ 57) = true) (w : World) : Calls Tryd.prog 55 #[.int .u8 a0] w fun e w' => e = .returned (.bool true) ∧ Drawn0 w w' :=
  lexis_digit.calls a0 true w (by simp at h h2; simp [lexis_digit.f, h, h2])
theorem digit_false (a0 : Int) (h : ¬ (48 ≤ a0 ∧ a0 ≤ 57)) (w : World) : Calls Tryd.prog 55 #[.int .u8 a0] w fun e w' => e = .returned (.bool false) ∧ Drawn0 w w' :=
  lexis_digit.calls a0 false w (by unfold lexis_digit.f; split <;> simp; omega)
theorem simple_d (a0 : Int) (h0 : 48 ≤ a0) (h1 : a0 ≤ 57) (w : World) : Calls Tryd.prog 56 #[.int .u8 a0] w fun e w' => e = .returned (.bool true) ∧ Below w.heap.size w w' := by
  go_enter Tryd.func56, Tryd.ntmps56
  go_wp2_with (go_at_call 55; refine (digit_true a0 (by simpa using h0) (by simpa using h1) _).mono ?_; rintro e w' ⟨rfl, ⟨n, rfl⟩⟩)
  go_ret
  exact ⟨rfl, pw_below_drewN (Below.refl _ _) _⟩
theorem simple_l (a0 : Int) (h0 : ¬ (48 ≤ a0 ∧ a0 ≤ 57)) (h1 : 97 ≤ bits .or .u8 a0 32) (h2 : bits .or .u8 a0 32 ≤ 122) (w : World) : Calls Tryd.prog 56 #[.int .u8 a0] w fun e w' => e = .returned (.bool true) ∧ Below w.heap.size w w' := by
  have H0 := Aside0.mk h0
  clear h0
  go_enter Tryd.func56, Tryd.ntmps56
  go_wp2_with (go_at_call 55; refine (digit_false a0 H0.out _).mono ?_; rintro e w' ⟨rfl, ⟨n, rfl⟩⟩)
  go_ret
  exact ⟨rfl, pw_below_drewN (Below.refl _ _) _⟩
theorem mark_no (a0 : Int) (k : Nat) (hk : k < 17) (h : ∀ j, j < k → markAt j ≠ a0) (hb : (a0 == markAt k) = false) : ∀ j, j < k + 1 → markAt j ≠ a0 := by
  intro j hj e
  rcases Nat.lt_or_ge j k with h1 | h1
  · exact h j h1 e
  · obtain rfl : j = k := by omega
    rw [e] at hb
    simp at hb
theorem markAt_eq (j : Nat) (hj : j < 17) : markL[j]? = some (markAt j) := by
  unfold markAt
  rw [List.getD_eq_getElem?_getD, List.getElem?_eq_getElem (by simpa [markL] using hj)]
  rfl
theorem mark_yes (a0 : Int) (k : Nat) (hk : k < 17) (hb : (a0 == markAt k) = true) : markB a0 = true := by
  have e : a0 = markAt k := by simpa using hb
  unfold markB
  rw [e]
  exact List.contains_iff_mem.2 (List.mem_of_getElem? (markAt_eq k hk))
theorem mark_none (a0 : Int) (h : ∀ j, j < 17 → markAt j ≠ a0) : markB a0 = false := by
  unfold markB
  rw [Bool.eq_false_iff]
  intro hc
  have hm := List.contains_iff_mem.1 hc
  obtain ⟨j, hj, e⟩ := List.getElem_of_mem hm
  have hj' : j < 17 := by simpa [markL] using hj
  refine h j hj' ?_
  have := markAt_eq j hj'
  rw [List.getElem?_eq_getElem hj] at this
  injection this with this
  rw [← this, e]
theorem simple_m (a0 : Int) (h0 : ¬ (48 ≤ a0 ∧ a0 ≤ 57)) (h1 : ¬ (97 ≤ bits .or .u8 a0 32 ∧ bits .or .u8 a0 32 ≤ 122)) (w : World) : Calls Tryd.prog 56 #[.int .u8 a0] w fun e w' => e = .returned (.bool (markB a0)) ∧ Below w.heap.size w w' := by
  have H0 := Aside0.mk h0
  clear h0
  by_cases h2 : 97 ≤ bits .or .u8 a0 32
  · have h3 : 122 < bits .or .u8 a0 32 := by omega
    have h3b : decide (bits .or .u8 a0 32 ≤ 122) = false := decide_eq_false (by omega)
    clear h1
    go_enter Tryd.func56, Tryd.ntmps56
    go_wp2_with (first | (go_at_call 55; refine (digit_false a0 H0.out _).mono ?_; rintro e w' ⟨rfl, ⟨n, rfl⟩⟩) | (go_at_call 76; refine (marks_calls _).mono ?_; rintro e w1 ⟨rfl, hb1⟩))
    have B0 := Aside0.mk hb1
    clear hb1
    go_loop [18] (fun i => ∃ k : Nat, k ≤ 17 ∧ i = .int .i64 k ∧ Aside0 (∀ j, j < k → markAt j ≠ a0)) (fun i => 17 - (intOf i).toNat)
    case atStart => exact ⟨0, by omega, rfl, ⟨fun j hj => by omega⟩⟩
    case round =>
      obtain ⟨k, hk, rfl, HA⟩ := hrel
      by_cases hlt : k < 17
      · have hidx := marks_index k hlt
        by_cases hb : (a0 == markAt k) = true
        · go_wp2
          go_ret
          exact ⟨by rw [mark_yes a0 k hlt hb]; rfl, below_then (pw_below_drewN (Below.refl _ _) n) (by simp) B0.out⟩
        · replace hb := Bool.eq_false_iff.mpr hb
          go_wp2
          go_round
          case rel => exact ⟨k + 1, by omega, by go_num, ⟨mark_no a0 k hlt HA.out hb⟩⟩
          case measure => simp [intOf]; omega
      · obtain rfl : k = 17 := by omega
        go_wp2
        go_ret
        exact ⟨by rw [mark_none a0 HA.out]; rfl, below_then (pw_below_drewN (Below.refl _ _) n) (by simp) B0.out⟩
  · have h2b : decide (97 ≤ bits .or .u8 a0 32) = false := decide_eq_false h2
    have h3 : bits .or .u8 a0 32 < 97 := by omega
    clear h1 h2
    go_enter Tryd.func56, Tryd.ntmps56
    go_wp2_with (first | (go_at_call 55; refine (digit_false a0 H0.out _).mono ?_; rintro e w' ⟨rfl, ⟨n, rfl⟩⟩) | (go_at_call 76; refine (marks_calls _).mono ?_; rintro e w1 ⟨rfl, hb1⟩))
    have B0 := Aside0.mk hb1
    clear hb1
    go_loop [18] (fun i => ∃ k : Nat, k ≤ 17 ∧ i = .int .i64 k ∧ Aside0 (∀ j, j < k → markAt j ≠ a0)) (fun i => 17 - (intOf i).toNat)
    case atStart => exact ⟨0, by omega, rfl, ⟨fun j hj => by omega⟩⟩
    case round =>
      obtain ⟨k, hk, rfl, HA⟩ := hrel
      by_cases hlt : k < 17
      · have hidx := marks_index k hlt
        by_cases hb : (a0 == markAt k) = true
        · go_wp2
          go_ret
          exact ⟨by rw [mark_yes a0 k hlt hb]; rfl, below_then (pw_below_drewN (Below.refl _ _) n) (by simp) B0.out⟩
        · replace hb := Bool.eq_false_iff.mpr hb
          go_wp2
          go_round
          case rel => exact ⟨k + 1, by omega, by go_num, ⟨mark_no a0 k hlt HA.out hb⟩⟩
          case measure => simp [intOf]; omega
      · obtain rfl : k = 17 := by omega
        go_wp2
        go_ret
        exact ⟨by rw [mark_none a0 HA.out]; rfl, below_then (pw_below_drewN (Below.refl _ _) n) (by simp) B0.out⟩
theorem lexis_simple.calls (a0 : Int) (r : Bool) (w : World) (h : lexis_simple.f a0 = some r) :
    Calls Tryd.prog 56 #[.int .u8 a0] w fun e w' => e = .returned (.bool r) ∧ Below w.heap.size w w' := by
  unfold lexis_simple.f simpleB at h
  injection h with h
  subst h
  by_cases h0 : 48 ≤ a0 ∧ a0 ≤ 57
  · have e : ((decide (48 ≤ a0) && decide (a0 ≤ 57)) || (decide (97 ≤ bits .or .u8 a0 32) && decide (bits .or .u8 a0 32 ≤ 122)) || markB a0) = true := by simp [h0.1, h0.2]
    rw [e]
    exact simple_d a0 h0.1 h0.2 w
  · have h0' : (decide (48 ≤ a0) && decide (a0 ≤ 57)) = false := by rw [Bool.and_eq_false_iff, decide_eq_false_iff_not, decide_eq_false_iff_not]; omega
    by_cases h1 : 97 ≤ bits .or .u8 a0 32 ∧ bits .or .u8 a0 32 ≤ 122
    · have e : ((decide (48 ≤ a0) && decide (a0 ≤ 57)) || (decide (97 ≤ bits .or .u8 a0 32) && decide (bits .or .u8 a0 32 ≤ 122)) || markB a0) = true := by simp [h1.1, h1.2]
      rw [e]
      exact simple_l a0 h0 h1.1 h1.2 w
    · have h1' : (decide (97 ≤ bits .or .u8 a0 32) && decide (bits .or .u8 a0 32 ≤ 122)) = false := by rw [Bool.and_eq_false_iff, decide_eq_false_iff_not, decide_eq_false_iff_not]; omega
      rw [h0', h1', Bool.false_or, Bool.false_or]
      exact simple_m a0 h0 h1 w
end Go.Proofs.YthklnopfgoekeaaDoor.X
