/- sexp.Text: an s-expression as it is written. -/
import Derived.Test.YthklnopfgoekeaaDoorX9
import Derived.Test.YthklnopfgoekeaaDoorHJoin
namespace Go.Proofs.YthklnopfgoekeaaDoor.X
open Go.RowKit Go.Proofs.YthklnopfgoekeaaDoorW.PrintWords Go.Proofs.YthklnopfgoekeaaDoorW.PrintLast Go.Proofs.YthklnopfgoekeaaDoorW.PrintMore
set_option linter.unusedVariables false
set_option linter.unusedSimpArgs false

/-- A row of texts with blanks between. -/
def kidsL (f : Int → List UInt8) : Bool → List Int → List UInt8
  | _, [] => []
  | first, k :: ks => (if first = true then [] else [32]) ++ (f k ++ kidsL f false ks)
/-- The text of node i, by nodes nested at most so deep. -/
def sxL (l : List S57) : Nat → Int → List UInt8
  | 0, _ => []
  | d + 1, i => if (rd_T57 l i).f0 = 1 then (writeR (rd_T57 l i).f1.f0 (rd_T57 l i).f1.f1 (rd_T57 l i).f1.f2).1.data.toList
    else 40 :: (kidsL (sxL l d) true (rd_T57 l i).f2 ++ [41])
/-- Node i is there, and what its lists name, nested at most so deep. -/
def sndL (l : List S57) : Nat → Int → Bool
  | 0, _ => false
  | d + 1, i => decide (0 ≤ i) && decide (i < l.length) && (if (rd_T57 l i).f0 = 1 then decide ((rd_T57 l i).f1.f1.size ≤ 1099511627776) else (rd_T57 l i).f2.all (sndL l d))
theorem kidsL_snoc (f : Int → List UInt8) : ∀ (ks : List Int) (b : Bool) (k : Int), kidsL f b (ks ++ [k]) = kidsL f b ks ++ ((if (b = true ∧ ks = []) then [] else [32]) ++ f k)
  | [], b, k => by
    rw [List.nil_append, kidsL, kidsL, kidsL, List.nil_append, List.append_nil]
    cases b <;> simp
  | a :: ks, b, k => by
    rw [List.cons_append, kidsL, kidsL_snoc f ks false k, kidsL]
    simp
theorem kids_take (f : Int → List UInt8) (ks : List Int) (j : Nat) (h : j < ks.length) : kidsL f true (ks.take (j + 1)) = kidsL f true (ks.take j) ++ ((if j = 0 then [] else [32]) ++ f (rd ks j)) := by
  have e : rd ks (j : Int) = ks[j] := by
    unfold rd
    simp [h]
  rw [List.take_add_one, List.getElem?_eq_getElem h, Option.toList_some, kidsL_snoc, e]
  by_cases hj : j = 0
  · subst hj
    rw [if_pos ⟨rfl, rfl⟩, if_pos rfl]
  · rw [if_neg, if_neg hj]
    rintro ⟨_, h2⟩
    have := congrArg List.length h2
    rw [List.length_take, List.length_nil] at this
    omega
theorem bytes_snoc (acc : List UInt8) (c : UInt8) (v : Int) (hv : v = (c.toNat : Int)) : Lib.byteCells acc ++ [Value.int .u8 v] = Lib.byteCells (acc ++ [c]) := by
  subst hv
  simp [Lib.byteCells]
theorem kids_le (f : Int → List UInt8) (ks : List Int) (j : Nat) (h : j < ks.length) : (kidsL f true (ks.take j)).length + (if j = 0 then 0 else 1) + (f (rd ks j)).length ≤ (kidsL f true ks).length := by
  have h1 := kids_take f ks j h
  have mono : ∀ (a b : List Int) (x : Bool), (kidsL f x a).length ≤ (kidsL f x (a ++ b)).length := by
    intro a
    induction a with
    | nil => intro b x; rw [kidsL]; exact Nat.zero_le _
    | cons y a ih =>
      intro b x
      rw [List.cons_append, kidsL, kidsL, List.length_append, List.length_append, List.length_append, List.length_append]
      have := ih b false
      omega
  have h2 := mono (ks.take (j + 1)) (ks.drop (j + 1)) true
  rw [List.take_append_drop, h1, List.length_append, List.length_append] at h2
  split at h2 <;> split <;> simp_all <;> omega
set_option maxHeartbeats 8000000 in
set_option maxRecDepth 100000 in
theorem swrite_calls (l0 : List S57) (A0 : Option Addr) (c0 : Nat) (w0 : World) (g : Nat) (hr0 : Kd.C k57 w0 A0 l0.length l0) (hc0 : l0.length ≤ c0) : ∀ (d : Nat) (i : Int) (acc : List UInt8) (w : World), sndL l0 d i = true → Below w0.heap.size w0 w → Lib.IsBuilder 76 5 w0.heap.size g (Lib.byteCells acc) w → acc.length + (sxL l0 d i).length ≤ 1099511627776 →
    Calls Tryd.prog 45 #[.pointer (some ⟨g, 0, none⟩), .slice A0 l0.length c0, .int .i64 i] w fun e w' => e = .returned (.tuple #[]) ∧ Below w0.heap.size w0 w' ∧ Lib.IsBuilder 76 5 w0.heap.size g (Lib.byteCells (acc ++ sxL l0 d i)) w'
  | 0, i, acc, w, hs, hb, hI, hz => by cases hs
  | d + 1, i, acc, w, hs, hb, hI, hz => by
    have IH := Aside0.mk (swrite_calls l0 A0 c0 w0 g hr0 hc0 d)
    rw [sndL, Bool.and_eq_true, Bool.and_eq_true] at hs
    obtain ⟨⟨hi0, hi1⟩, hs⟩ := hs
    have hi0 := of_decide_eq_true hi0
    have hi1 := of_decide_eq_true hi1
    obtain ⟨ad, A6, c6, rfl, e0, e1, e2, e3, e4, e5, e6, hl6, hC6⟩ := at_T57 hr0 i hi0 hi1
    replace e0 := (hb.cell (World.block_lt_of_cell? w0 _ e0)).trans e0
    replace e1 := (hb.cell (World.block_lt_of_cell? w0 _ e1)).trans e1
    replace e2 := (hb.cell (World.block_lt_of_cell? w0 _ e2)).trans e2
    replace e3 := (hb.cell (World.block_lt_of_cell? w0 _ e3)).trans e3
    replace e4 := (hb.cell (World.block_lt_of_cell? w0 _ e4)).trans e4
    replace e5 := (hb.cell (World.block_lt_of_cell? w0 _ e5)).trans e5
    have e60 := e6
    replace e6 := (hb.cell (World.block_lt_of_cell? w0 _ e6)).trans e6
    have E6 := Aside0.mk e60
    clear e60
    have HC6 := Aside0.mk hC6
    have HB := Aside0.mk hb
    have HI := Aside0.mk hI
    have hX : sxL l0 (d + 1) i = if (rd_T57 l0 i).f0 = 1 then (writeR (rd_T57 l0 i).f1.f0 (rd_T57 l0 i).f1.f1 (rd_T57 l0 i).f1.f2).1.data.toList else 40 :: (kidsL (sxL l0 d) true (rd_T57 l0 i).f2 ++ [41]) := by rw [sxL]
    obtain ⟨n, hn⟩ : ∃ n, n = rd_T57 l0 i := ⟨_, rfl⟩
    rw [← hn] at e0 e1 e2 e3 e4 e5 e6 hl6 HC6 hX hs E6
    have hbw : w0.heap.size ≤ w.heap.size := hb.size
    clear hr0 hC6 hb hI hn
    cases h1 : (n.f0 == 1) with
    | true =>
      have h1' : n.f0 = 1 := by simpa using h1
      rw [if_pos h1'] at hX hs
      have hts := of_decide_eq_true hs
      have HX : Aside0 (sxL l0 (d + 1) i = (writeR n.f1.f0 n.f1.f1 n.f1.f2).1.data.toList) := ⟨hX⟩
      rw [hX] at hz
      clear hs hX h1'
      go_enter Tryd.func45, Tryd.ntmps45
      go_wp2_with fail
      refine (write_tells n.f1.f0 n.f1.f1 n.f1.f2 n.f1.f3 n.f1.f4 hts _).mono ?_
      rintro e w1 ⟨rfl, hb1⟩
      have HB1 := Aside0.mk (below_then HB.out HB.out.size hb1)
      have HI1 : Aside0 (Lib.IsBuilder 76 5 w0.heap.size g (Lib.byteCells acc) w1) := ⟨builder_below HI.out hb1⟩
      clear hb1
      obtain ⟨x, f, hwx⟩ : ∃ x f, writeR n.f1.f0 n.f1.f1 n.f1.f2 = (x, f) := ⟨_, _, rfl⟩
      rw [hwx] at hz ⊢
      have HW := Aside0.mk hwx
      clear hwx
      have hzx : acc.length + x.size ≤ 1099511627776 := hz
      go_wp2_with fail
      refine (Tryd.Builder_WriteString w0.heap.size g (Lib.byteCells acc) x w1 HI1.out (by rw [Lib.byteCells_length]; omega) HB1.out.size).mono ?_
      rintro e w2 ⟨rfl, hI2, hb2⟩
      rw [cells_join] at hI2
      have HB2 := Aside0.mk (HB1.out.trans hb2)
      have HI2 := Aside0.mk hI2
      clear hI2 hb2
      go_wp2
      refine bodyPost_ret (results_list (rs := []) rfl (by simp) .nil) rfl ?_
      refine ⟨rfl, HB2.out, ?_⟩
      rw [HX.out, HW.out]
      exact .inr HI2.out
    | false =>
      have h1' : ¬ n.f0 = 1 := by simpa using h1
      rw [if_neg h1'] at hX hs
      have HX : Aside0 (sxL l0 (d + 1) i = 40 :: (kidsL (sxL l0 d) true n.f2 ++ [41])) := ⟨hX⟩
      have HS : Aside0 (∀ j : Nat, j < n.f2.length → sndL l0 d (rd n.f2 j) = true) := ⟨fun j hj => by
        have e : rd n.f2 (j : Int) = n.f2[j] := by unfold rd; simp [hj]
        rw [e]
        exact List.all_eq_true.1 hs _ (List.getElem_mem hj)⟩
      rw [hX, List.length_cons, List.length_append, List.length_singleton] at hz
      have HZ : Aside0 (∀ j : Nat, j < n.f2.length → acc.length + 1 + (kidsL (sxL l0 d) true (n.f2.take j)).length + (if j = 0 then 0 else 1) + (sxL l0 d (rd n.f2 j)).length ≤ 1099511627776) := ⟨fun j hj => by
        have := kids_le (sxL l0 d) n.f2 j hj
        omega⟩
      have hza : acc.length ≤ 1099511627776 := by omega
      have hmx : n.f2.length ≤ 9223372036854775807 := by have := HC6.out.2.1; simpa [maxLen] using this
      have HZ2 := Aside0.mk hz
      clear hs hX h1' hz e1 e2 e3 e4 e5 e6
      go_enter Tryd.func45, Tryd.ntmps45
      go_wp2_with fail
      refine (Tryd.Builder_WriteByte w0.heap.size g (Lib.byteCells acc) 40 w HI.out (by rw [Lib.byteCells_length]; omega) hbw).mono ?_
      rintro e w1 ⟨rfl, hI1, hb1⟩
      rw [bytes_snoc acc 40 40 rfl] at hI1
      have HB1 : Aside0 (Below w0.heap.size w0 w1) := ⟨HB.out.trans hb1⟩
      have HI1 : Aside0 (Lib.IsBuilder 76 5 w0.heap.size g (Lib.byteCells (acc ++ 40 :: kidsL (sxL l0 d) true (n.f2.take 0))) w1) := ⟨.inr hI1⟩
      have e6 := (HB1.out.cell (World.block_lt_of_cell? w0 _ E6.out)).trans E6.out
      clear hI1 hb1 e0
      go_wp2
      go_loopw [36] (fun ix wr => ∃ (j : Nat), j ≤ n.f2.length ∧ ix = .int .i64 j ∧ Aside0 (Below w0.heap.size w0 wr) ∧ Aside0 (Lib.IsBuilder 76 5 w0.heap.size g (Lib.byteCells (acc ++ 40 :: kidsL (sxL l0 d) true (n.f2.take j))) wr)) (fun ix _ => n.f2.length - (intOf ix).toNat)
      case atStart => exact ⟨0, by omega, by go_num, HB1, HI1⟩
      case round =>
        obtain ⟨j, hj, rfl, HBr, HIr⟩ := hrel
        by_cases hlt : j < n.f2.length
        · obtain ⟨adk, rfl, ek⟩ := Kd.at_int (Kd.C_below HC6.out HBr.out) j (by omega) (by omega)
          simp only [Int.toNat_natCast] at ek
          have HZj := Aside0.mk (HZ.out j hlt)
          have HSj := Aside0.mk (HS.out j hlt)
          have HTj := Aside0.mk (kids_take (sxL l0 d) n.f2 j hlt)
          obtain ⟨kid, hkid⟩ : ∃ kid, kid = rd n.f2 j := ⟨_, rfl⟩
          rw [← hkid] at ek HZj HSj HTj
          clear hkid
          have hwj : wrap64 ((j : Int) + 1) = (j : Int) + 1 := by unfold wrap64; omega
          by_cases hj0 : j = 0
          · have hg : decide ((0 : Int) < (j : Int)) = false := decide_eq_false (by omega)
            have hg2 : decide (0 < j) = false := decide_eq_false (by omega)
            have HJ0 := Aside0.mk hj0
            clear hj0
            go_wp2_with fail
            refine (IH.out kid _ wr HSj.out HBr.out HIr.out (by have := HZj.out; rw [List.length_append, List.length_cons]; rw [if_pos HJ0.out] at this; omega)).mono ?_
            rintro e w3 ⟨rfl, hb3, hI3⟩
            have HB3 := Aside0.mk hb3
            have HI3 : Aside0 (Lib.IsBuilder 76 5 w0.heap.size g (Lib.byteCells (acc ++ 40 :: kidsL (sxL l0 d) true (n.f2.take (j + 1)))) w3) := ⟨by rw [HTj.out, if_pos HJ0.out, List.nil_append]; simpa using hI3⟩
            clear hb3 hI3
            go_wp2
            go_roundw
            case rel => exact ⟨j + 1, by omega, by go_num, HB3, HI3⟩
            case measure => simp [intOf]; omega
          · have hg : decide ((0 : Int) < (j : Int)) = true := decide_eq_true (by omega)
            have hg2 : decide (0 < j) = true := decide_eq_true (by omega)
            go_wp2_with fail
            refine (Tryd.Builder_WriteByte w0.heap.size g (Lib.byteCells (acc ++ 40 :: kidsL (sxL l0 d) true (n.f2.take j))) 32 wr HIr.out (by rw [Lib.byteCells_length, List.length_append, List.length_cons]; have := HZj.out; omega) HBr.out.size).mono ?_
            rintro e w2 ⟨rfl, hI2, hb2⟩
            rw [bytes_snoc _ 32 32 rfl] at hI2
            have HB2 : Aside0 (Below w0.heap.size w0 w2) := ⟨HBr.out.trans hb2⟩
            have HI2 := Aside0.mk hI2
            clear hI2 hb2
            go_wp2_with fail
            refine (IH.out kid _ w2 HSj.out HB2.out (.inr HI2.out) (by have := HZj.out; rw [List.length_append, List.length_append, List.length_cons, List.length_singleton]; rw [if_neg hj0] at this; omega)).mono ?_
            rintro e w3 ⟨rfl, hb3, hI3⟩
            have HB3 := Aside0.mk hb3
            have HI3 : Aside0 (Lib.IsBuilder 76 5 w0.heap.size g (Lib.byteCells (acc ++ 40 :: kidsL (sxL l0 d) true (n.f2.take (j + 1)))) w3) := ⟨by rw [HTj.out, if_neg hj0]; simpa using hI3⟩
            clear hb3 hI3
            go_wp2
            go_roundw
            case rel => exact ⟨j + 1, by omega, by go_num, HB3, HI3⟩
            case measure => simp [intOf]; omega
        · obtain rfl : j = n.f2.length := by omega
          go_wp2_with fail
          refine (Tryd.Builder_WriteByte w0.heap.size g (Lib.byteCells (acc ++ 40 :: kidsL (sxL l0 d) true (n.f2.take n.f2.length))) 41 wr HIr.out (by rw [Lib.byteCells_length, List.length_append, List.length_cons, List.take_length]; have := HZ2.out; omega) HBr.out.size).mono ?_
          rintro e w2 ⟨rfl, hI2, hb2⟩
          rw [bytes_snoc _ 41 41 rfl] at hI2
          have HB2 : Aside0 (Below w0.heap.size w0 w2) := ⟨HBr.out.trans hb2⟩
          have HI2 := Aside0.mk hI2
          clear hI2 hb2
          go_wp2
          go_end0
          refine ⟨rfl, HB2.out, ?_⟩
          rw [HX.out]
          have := HI2.out
          rw [List.take_length] at this
          refine .inr ?_
          simpa using this
/-- What Text answers behind asked and sizes. -/
def textEnd (l0 : List S57) (a1 : Int) (sz : List Int) : Option (ByteArray × Int) :=
  if 0 ≤ a1 ∧ a1 < (sz.length : Int) then (if rd sz a1 > 1048576 then some (⟨#[]⟩, 2) else
    (if sndL l0 (a1.toNat + 1) a1 = true ∧ (sxL l0 (a1.toNat + 1) a1).length ≤ 1099511627776 then some (strOf (sxL l0 (a1.toNat + 1) a1), 0) else none)) else none
def sexp_Text.f (k : Nat) (l0 : List (S57)) (a1 : Int) : Option (ByteArray × Int) := (sexp_asked.f k l0 a1).bind fun bt => (if bt.2 = 0 then ((sexp_sizes.f k l0 bt.1).bind fun sz => textEnd l0 a1 sz) else some (⟨#[]⟩, bt.2))
theorem sexp_Text.mono : ∀ l0 a1 k, LeO (sexp_Text.f k l0 a1) (sexp_Text.f (k + 1) l0 a1) := by
  intro l0 a1 k
  unfold sexp_Text.f
  refine LeO.bind (sexp_asked.mono _ _ _) (fun _ => ?_)
  refine LeO.ite ?_ (LeO.refl _)
  exact LeO.bind (sexp_sizes.mono _ _ _) (fun _ => LeO.refl _)
set_option maxHeartbeats 8000000 in
set_option maxRecDepth 100000 in
theorem sexp_Text.calls (k : Nat) (A0 : Option Addr) (c0 : Nat) (l0 : List (S57)) (a1 : Int) (r1 : ByteArray) (r2 : Int) (w : World) (hr0 : Kd.C k57 w A0 l0.length l0) (hc0 : l0.length ≤ c0) (h : sexp_Text.f k l0 a1 = some (r1, r2)) :
    Calls Tryd.prog 29 #[.slice A0 l0.length c0, .int .i64 a1] w fun e w' => e = .returned (.tuple #[.string r1, .int .i64 r2]) ∧ Below w.heap.size w w' := by
  unfold sexp_Text.f at h
  obtain ⟨⟨met, f⟩, hA, h⟩ := Option.bind_eq_some_iff.1 h
  have h : (if f = 0 then ((sexp_sizes.f k l0 met).bind fun sz => textEnd l0 a1 sz) else some (⟨#[]⟩, f)) = some (r1, r2) := h
  have HR := Aside0.mk hr0
  have HA := Aside0.mk hA
  have H := Aside0.mk h
  clear hr0 hA h
  go_enter Tryd.func29, Tryd.ntmps29
  go_wp2_with fail
  refine (sexp_asked.calls k A0 c0 l0 a1 met f w HR.out hc0 HA.out).mono ?_
  rintro e w1 ⟨v0, rfl, hM, hb1⟩
  have HB1 := Aside0.mk hb1
  obtain ⟨AM, cM, rfl, hcM, hCM⟩ := Kd.R_reads hM
  have HM := Aside0.mk hCM
  clear hM hCM hb1
  cases hf : (f != 0) with
  | true =>
    have HE : Aside0 (r1 = ⟨#[]⟩ ∧ r2 = f) := ⟨by
      have h := H.out
      rw [if_neg (by simpa using hf)] at h
      injection h with h
      injection h with h1 h2
      exact ⟨h1.symm, h2.symm⟩⟩
    go_wp2
    go_ret2
    rw [HE.out.1, HE.out.2]
    exact ⟨rfl, HB1.out⟩
  | false =>
    have h := H.out
    rw [if_pos (by simpa using hf)] at h
    obtain ⟨sz, hZ, h⟩ := Option.bind_eq_some_iff.1 h
    have HZ := Aside0.mk hZ
    have H2 := Aside0.mk h
    clear hZ h H
    go_wp2_with fail
    refine (sexp_sizes.calls k A0 c0 l0 AM cM met sz w1 (Kd.C_below HR.out HB1.out) hc0 HM.out hcM HZ.out).mono ?_
    rintro e w2 ⟨v1, rfl, hS, hb2⟩
    have HB2 := Aside0.mk (below_then HB1.out HB1.out.size hb2)
    obtain ⟨AS, cS, rfl, hcS, hCS⟩ := Kd.R_reads hS
    have HS := Aside0.mk hCS
    clear hS hCS hb2
    have h := H2.out
    unfold textEnd at h
    by_cases hin : 0 ≤ a1 ∧ a1 < (sz.length : Int)
    · rw [if_pos hin] at h
      obtain ⟨hi0, hi1⟩ := hin
      obtain ⟨ad, rfl, es⟩ := Kd.at_int HS.out a1 hi0 hi1
      have hq0 := eq_true hi0
      have hq1 := eq_true hi1
      by_cases hbig : rd sz a1 > 1048576
      · rw [if_pos hbig] at h
        have hg : decide (1048576 < rd sz a1) = true := decide_eq_true hbig
        injection h with h
        injection h with h1 h2
        subst h1 h2
        clear hbig
        go_wp2
        go_ret2
        exact ⟨rfl, HB2.out⟩
      · rw [if_neg hbig] at h
        have hg : decide (1048576 < rd sz a1) = false := decide_eq_false hbig
        split at h
        · rename_i hs
          injection h with h
          injection h with h1 h2
          subst h1 h2
          have HSN := Aside0.mk hs
          clear hbig hs
          go_wp2_with fail
          have HB3 : Aside0 (Below w.heap.size w (w2.alloc (.cells #[.pointer none, .slice none 0 0] 76))) := ⟨HB2.out.alloc HB2.out.size _⟩
          have HI3 : Aside0 (Lib.IsBuilder 76 5 w.heap.size w2.heap.size (Lib.byteCells []) (w2.alloc (.cells #[.pointer none, .slice none 0 0] 76))) := ⟨.inl ⟨HB2.out.size, .slice none 0 0, blk_new w2 _, own_nil _ _ _ _, by simp [Value.ownBlock]⟩⟩
          refine (swrite_calls l0 A0 c0 w w2.heap.size HR.out hc0 (a1.toNat + 1) a1 [] _ HSN.out.1 HB3.out HI3.out (by have := HSN.out.2; rw [List.length_nil, Nat.zero_add]; exact this)).mono ?_
          rintro e w4 ⟨rfl, hb4, hI4⟩
          rw [List.nil_append] at hI4
          have HB4 := Aside0.mk hb4
          have HI4 := Aside0.mk hI4
          clear hb4 hI4
          go_wp2_with fail
          refine (string_calls w.heap.size w2.heap.size _ w4 HI4.out HB4.out.size).mono ?_
          rintro e w5 ⟨rfl, hb5⟩
          have HB5 := Aside0.mk (HB4.out.trans hb5)
          clear hb5
          go_wp2
          go_ret2
          exact ⟨rfl, HB5.out⟩
        · cases h
    · rw [if_neg hin] at h
      cases h
end Go.Proofs.YthklnopfgoekeaaDoor.X
