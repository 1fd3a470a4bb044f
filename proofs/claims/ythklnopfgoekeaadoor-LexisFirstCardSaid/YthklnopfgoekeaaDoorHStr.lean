import Derived.Test.YthklnopfgoekeaaDoorHReplace
namespace Go.Proofs.YthklnopfgoekeaaDoor.X
open Go.RowKit Go.Proofs.YthklnopfgoekeaaDoorW.PrintWords Go.Proofs.YthklnopfgoekeaaDoorW.PrintLast Go.Proofs.YthklnopfgoekeaaDoorW.PrintMore
set_option linter.unusedVariables false

/-- A text between quotes. -/
def quoted (t : ByteArray) : ByteArray := (⟨#[34]⟩ : ByteArray) ++ dbl t ++ (⟨#[34]⟩ : ByteArray)
def strR (t : ByteArray) : ByteArray × Int := if runN printB t 0 = t.size then (quoted t, 0) else (⟨#[]⟩, 60)
theorem str_ok {t : ByteArray} (h : ∀ j, j < t.size → printB (bt t ((0 : Nat) + (j : Nat))) = true) : strR t = (quoted t, 0) := by
  unfold strR
  rw [if_pos (runN_eq (by omega) (fun j hj => h j hj) (.inl (by omega)))]
theorem str_bad {t : ByteArray} {k : Nat} (hk : k < t.size) (h : ∀ j, j < k → printB (bt t (((0 : Nat) : Int) + (j : Nat))) = true) (hb : printB (bt t k) = false) : strR t = (⟨#[]⟩, 60) := by
  unfold strR
  have e : runN printB t 0 = k := runN_eq (by omega) h (.inr (by simpa using hb))
  rw [e, if_neg (by omega)]
set_option maxHeartbeats 2000000 in
set_option maxRecDepth 100000 in
theorem string_tells (t : ByteArray) (ht : t.size ≤ 1099511627776) (w : World) :
    Calls Tryd.prog 63 #[.string t] w fun e w' => e = .returned (.tuple #[.string (strR t).1, .int .i64 (strR t).2]) ∧ Below w.heap.size w w' := by
  have hds := dbl_size t
  go_enter Tryd.func63, Tryd.ntmps63
  go_wp2
  go_loopw [7] (fun i wr => ∃ k : Nat, k ≤ t.size ∧ i = .int .i64 k ∧ Aside0 (∀ j, j < k → printB (bt t (((0 : Nat) : Int) + (j : Nat))) = true) ∧ Aside0 (Below w.heap.size w wr)) (fun i _ => t.size - (intOf i).toNat)
  case atStart => exact ⟨0, by omega, rfl, ⟨fun j hj => by omega⟩, ⟨Below.refl _ _⟩⟩
  case round =>
    obtain ⟨k, hk, rfl, HP, HB⟩ := hrel
    by_cases hlt : k < t.size
    · have hix := index_str t (k : Int) k rfl hlt
      cases hp : printB (bt t k) with
      | true =>
        have HY := Aside0.mk hp
        clear hp
        go_wp2_with fail
        refine (lexis_printable.calls 3 (bt t k) true _ (by rw [print_f, HY.out])).mono ?_
        rintro e w1 ⟨rfl, hb1⟩
        have HB1 := Aside0.mk (below_then HB.out HB.out.size hb1)
        clear hb1
        go_wp2
        go_roundw
        case rel => exact ⟨k + 1, by omega, by go_num, ⟨fun j hj => by
          rcases Nat.lt_or_ge j k with h1 | h1
          · exact HP.out j h1
          · obtain rfl : j = k := by omega
            simpa using HY.out⟩, HB1⟩
        case measure => simp [intOf]; omega
      | false =>
        have HE := Aside0.mk (str_bad hlt HP.out hp)
        have HY := Aside0.mk hp
        clear hp
        go_wp2_with fail
        refine (lexis_printable.calls 3 (bt t k) false _ (by rw [print_f, HY.out])).mono ?_
        rintro e w1 ⟨rfl, hb1⟩
        have HB1 := Aside0.mk (below_then HB.out HB.out.size hb1)
        clear hb1
        go_wp2
        go_ret2
        rw [HE.out]
        exact ⟨rfl, HB1.out⟩
    · obtain rfl : k = t.size := by omega
      have HE := Aside0.mk (str_ok HP.out)
      go_wp2_with fail
      refine (replaceAll_calls t ht _).mono ?_
      rintro e w1 ⟨rfl, hb1⟩
      have HB1 := Aside0.mk (below_then HB.out HB.out.size hb1)
      clear hb1
      obtain ⟨dt, hdt⟩ : ∃ dt, dt = dbl t := ⟨_, rfl⟩
      rw [← hdt] at hds ⊢
      have HDT := Aside0.mk hdt
      clear hdt
      go_wp2
      go_ret2
      rw [HE.out]
      unfold quoted
      rw [← HDT.out]
      exact ⟨rfl, HB1.out⟩
def lexis_String.f (a0 : ByteArray) : Option (ByteArray × Int) := if a0.size ≤ 1099511627776 then some (strR a0) else none
theorem lexis_String.calls (a0 : ByteArray) (r1 : ByteArray) (r2 : Int) (w : World) (h : lexis_String.f a0 = some (r1, r2)) :
    Calls Tryd.prog 63 #[.string a0] w fun e w' => e = .returned (.tuple #[.string r1, .int .i64 r2]) ∧ Below w.heap.size w w' := by
  unfold lexis_String.f at h
  split at h
  · rename_i hs
    injection h with h
    have := string_tells a0 hs w
    rw [h] at this
    exact this
  · cases h
/-- A token as it would be written. -/
def textR (k : Int) (tx : ByteArray) (q : Bool) : ByteArray :=
  if k = 5 then (⟨#[35, 120]⟩ : ByteArray) ++ tx else if k = 6 then (⟨#[35, 98]⟩ : ByteArray) ++ tx else if k = 9 then (⟨#[58]⟩ : ByteArray) ++ tx
  else if k = 7 then (strR tx).1 else if k = 8 ∧ q = true then (⟨#[124]⟩ : ByteArray) ++ tx ++ (⟨#[124]⟩ : ByteArray) else tx
theorem quoted_size (t : ByteArray) : (quoted t).size ≤ 2 * t.size + 2 := by
  unfold quoted
  rw [ByteArray.size_append, ByteArray.size_append]
  have := dbl_size t
  show 1 + _ + 1 ≤ _
  omega
theorem strR_size (t : ByteArray) : (strR t).1.size ≤ 2 * t.size + 2 := by
  unfold strR
  split
  · exact quoted_size t
  · show 0 ≤ _; omega
set_option maxHeartbeats 4000000 in
set_option maxRecDepth 100000 in
theorem text_tells (k : Int) (tx : ByteArray) (q : Bool) (l c : Int) (ht : tx.size ≤ 1099511627776) (w : World) :
    Calls Tryd.prog 39 #[.agg #[.int .i64 k, .string tx, .bool q, .int .i64 l, .int .i64 c]] w fun e w' => e = .returned (.string (textR k tx q)) ∧ Below w.heap.size w w' := by
  have hW : ∀ o : Obj, Below w.heap.size w (w.alloc o) := fun o => (Below.refl _ _).alloc (Nat.le_refl _) _
  have HW := Aside0.mk hW
  clear hW
  cases h5 : (k == 5) with
  | true =>
    have HE : Aside0 (textR k tx q = (⟨#[35, 120]⟩ : ByteArray) ++ tx) := ⟨by unfold textR; rw [if_pos (by simpa using h5)]⟩
    go_enter Tryd.func39, Tryd.ntmps39
    go_wp2
    go_ret
    rw [HE.out]
    exact ⟨rfl, HW.out _⟩
  | false =>
    cases h6 : (k == 6) with
    | true =>
      have HE : Aside0 (textR k tx q = (⟨#[35, 98]⟩ : ByteArray) ++ tx) := ⟨by unfold textR; rw [if_neg (by simpa using h5), if_pos (by simpa using h6)]⟩
      go_enter Tryd.func39, Tryd.ntmps39
      go_wp2
      go_ret
      rw [HE.out]
      exact ⟨rfl, HW.out _⟩
    | false =>
      cases h9 : (k == 9) with
      | true =>
        have HE : Aside0 (textR k tx q = (⟨#[58]⟩ : ByteArray) ++ tx) := ⟨by unfold textR; rw [if_neg (by simpa using h5), if_neg (by simpa using h6), if_pos (by simpa using h9)]⟩
        go_enter Tryd.func39, Tryd.ntmps39
        go_wp2
        go_ret
        rw [HE.out]
        exact ⟨rfl, HW.out _⟩
      | false =>
        cases h7 : (k == 7) with
        | true =>
          have HE : Aside0 (textR k tx q = (strR tx).1) := ⟨by unfold textR; rw [if_neg (by simpa using h5), if_neg (by simpa using h6), if_neg (by simpa using h9), if_pos (by simpa using h7)]⟩
          go_enter Tryd.func39, Tryd.ntmps39
          go_wp2_with (go_at_call 63; refine (string_tells tx ht _).mono ?_; rintro e w1 ⟨rfl, hb1⟩; have HB1 := Aside0.mk (below_then (HW.out _) (by simp) hb1); clear hb1)
          go_ret
          rw [HE.out]
          exact ⟨rfl, HB1.out⟩
        | false =>
          cases h8 : (k == 8) with
          | true =>
            cases q with
            | true =>
              have HE : Aside0 (textR k tx true = (⟨#[124]⟩ : ByteArray) ++ tx ++ (⟨#[124]⟩ : ByteArray)) := ⟨by unfold textR; rw [if_neg (by simpa using h5), if_neg (by simpa using h6), if_neg (by simpa using h9), if_neg (by simpa using h7), if_pos ⟨by simpa using h8, rfl⟩]⟩
              go_enter Tryd.func39, Tryd.ntmps39
              go_wp2
              go_ret
              rw [HE.out]
              exact ⟨rfl, HW.out _⟩
            | false =>
              have HE : Aside0 (textR k tx false = tx) := ⟨by unfold textR; rw [if_neg (by simpa using h5), if_neg (by simpa using h6), if_neg (by simpa using h9), if_neg (by simpa using h7), if_neg (fun h => by cases h.2)]⟩
              go_enter Tryd.func39, Tryd.ntmps39
              go_wp2
              go_ret
              rw [HE.out]
              exact ⟨rfl, HW.out _⟩
          | false =>
            have HE : Aside0 (textR k tx q = tx) := ⟨by unfold textR; rw [if_neg (by simpa using h5), if_neg (by simpa using h6), if_neg (by simpa using h9), if_neg (by simpa using h7), if_neg (fun h => by simp [h.1] at h8)]⟩
            go_enter Tryd.func39, Tryd.ntmps39
            go_wp2
            go_ret
            rw [HE.out]
            exact ⟨rfl, HW.out _⟩
end Go.Proofs.YthklnopfgoekeaaDoor.X
