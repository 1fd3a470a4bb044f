/- The reference's Sizes, write and Text at tables of nodes of moderate size: what sexp.Text tells. -/
import Derived.Test.YthklnopfgoekeaaGreatDoorHRDepth
namespace Go.Proofs.YthklnopfgoekeaaGreatDoor.X
open Go.RowKit Go.Proofs.YthklnopfgoekeaaGreatDoorW.PrintWords Go.Proofs.YthklnopfgoekeaaGreatDoorW.PrintLast Go.Proofs.YthklnopfgoekeaaGreatDoorW.PrintMore
set_option linter.unusedVariables false
set_option linter.unusedSimpArgs false
/-- The sum of the entries that a list's kids have. -/
def smk (f : Int → Int) : List Int → Int
  | [] => 0
  | k :: ks => f k + smk f ks
theorem smk_snoc (f : Int → Int) : ∀ (ks : List Int) (k : Int), smk f (ks ++ [k]) = smk f ks + f k
  | [], k => by rw [List.nil_append, smk, smk, smk]; omega
  | a :: ks, k => by rw [List.cons_append, smk, smk, smk_snoc f ks]; omega
theorem smk_nn (f : Int → Int) : ∀ (ks : List Int), (∀ k ∈ ks, 0 ≤ f k) → 0 ≤ smk f ks
  | [], h => by rw [smk]; omega
  | a :: ks, h => by
    have h1 := h a (List.mem_cons_self ..)
    have h2 := smk_nn f ks (fun k hk => h k (List.mem_cons_of_mem _ hk))
    rw [smk]
    omega
/-- The size of a list of these kids, at most 1048577. -/
def zck (f : Int → Int) (ks : List Int) : Int := min (2 + smk f ks + max 0 ((ks.length : Int) - 1)) 1048577
theorem zck_bd (f : Int → Int) (ks : List Int) (h : ∀ k ∈ ks, 0 ≤ f k) : 2 ≤ zck f ks ∧ zck f ks ≤ 1048577 := by
  have := smk_nn f ks h
  unfold zck
  omega
theorem zck_next (f : Int → Int) (ks : List Int) (j : Nat) (h : j < ks.length) (hf : ∀ k ∈ ks, 0 ≤ f k) : zck f (ks.take (j + 1)) = min (zck f (ks.take j) + (if j = 0 then 0 else 1) + f (rd ks (j : Int))) 1048577 := by
  have e : rd ks (j : Int) = ks[j] := by rw [rd_nat', List.getD_eq_getElem?_getD, List.getElem?_eq_getElem h]; rfl
  have e2 : ks.take (j + 1) = ks.take j ++ [rd ks (j : Int)] := by rw [List.take_add_one, List.getElem?_eq_getElem h, Option.toList_some, e]
  have h1 := smk_nn f (ks.take j) (fun k hk => hf k (List.mem_of_mem_take hk))
  have h2 := hf (rd ks (j : Int)) (by rw [e]; exact List.getElem_mem h)
  have hl : (ks.take j).length = j := by rw [List.length_take]; omega
  unfold zck
  rw [e2, smk_snoc, List.length_append, hl, List.length_singleton]
  split <;> omega
theorem fsz_sum (f : Int → Int) : ∀ (ks : List Int) (x : Int), (∀ k ∈ ks, 0 ≤ f k) → fsz f (min x 1048577) ks = min (x + smk f ks) 1048577
  | [], x, h => by rw [fsz, smk]; omega
  | k :: ks, x, h => by
    have h1 := h k (List.mem_cons_self ..)
    have h2 := smk_nn f ks (fun k hk => h k (List.mem_cons_of_mem _ hk))
    have e : min (min x 1048577 + f k) 1048577 = min (x + f k) 1048577 := by omega
    rw [fsz, e, fsz_sum f ks _ (fun k hk => h k (List.mem_cons_of_mem _ hk)), smk]
    congr 1
    omega
theorem fsz_zck (f : Int → Int) (ks : List Int) (h : ∀ k ∈ ks, 0 ≤ f k) : fsz f (2 + max 0 ((ks.length : Int) - 1)) ks = zck f ks := by
  cases ks with
  | nil => rw [fsz, zck, smk]; rfl
  | cons k ks =>
    rw [fsz, fsz_sum f ks _ (fun k hk => h k (List.mem_cons_of_mem _ hk)), zck, smk]
    congr 1
    omega
/-- What stands in the row of sizes ahead of node i. -/
structure RZ (l : List S56) (m : List Bool) (n i : Nat) (o : List Int) : Prop where
  len : o.length = n
  sz : ∀ q : Nat, q < i → m.getD q false = true → rd o (q : Int) = szI l q
  bd : ∀ q : Nat, 0 ≤ rd o (q : Int) ∧ rd o (q : Int) ≤ 1048577
  z : ∀ q : Nat, i ≤ q → rd o (q : Int) = 0
theorem RZ.skip {l : List S56} {m : List Bool} {n i : Nat} {o : List Int} (h : RZ l m n i o) (hm : m.getD i false ≠ true) : RZ l m n (i + 1) o := by
  refine ⟨h.len, fun q hq hqm => ?_, h.bd, fun q hq => h.z q (by omega)⟩
  rcases Nat.lt_or_ge q i with hlt | hge
  · exact h.sz q hlt hqm
  · obtain rfl : q = i := by omega
    exact absurd hqm hm
theorem RZ.put {l : List S56} {m : List Bool} {n i : Nat} {o : List Int} (h : RZ l m n i o) (hi : i < n) (x : Int) (hx : 0 ≤ x ∧ x ≤ 1048577) (hm : m.getD i false = true → x = szI l i) : RZ l m n (i + 1) (o.set i x) := by
  have hl := h.len
  refine ⟨by rw [List.length_set]; exact hl, fun q hq hqm => ?_, fun q => ?_, fun q hq => ?_⟩
  · rw [rd_set o i q _ (by omega)]
    split
    · rename_i e
      subst e
      exact hm hqm
    · exact h.sz q (by omega) hqm
  · rw [rd_set o i q _ (by omega)]
    split
    · exact hx
    · exact h.bd q
  · rw [rd_set o i q _ (by omega), if_neg (by omega)]
    exact h.z q (by omega)
theorem RZ.kids {l : List S56} {m : List Bool} {n i : Nat} {o : List Int} (h : RZ l m n i o) (hok : okN i (nd l i) = true) (h1 : (nd l i).f0 ≠ 1) : ∀ k ∈ (nd l i).f2, 0 ≤ rd o k := by
  intro k hk
  have hk1 := (ok_kids hok h1).2 k hk
  obtain ⟨q, rfl⟩ : ∃ q : Nat, k = (q : Int) := ⟨k.toNat, by omega⟩
  exact (h.bd q).1
theorem RZ.list {l : List S56} {m : List Bool} {n i : Nat} {o : List Int} (hC : Clo l m n) (h : RZ l m n i o) (hi : i < n) (hok : okN i (nd l i) = true) (h1 : (nd l i).f0 ≠ 1) :
    RZ l m n (i + 1) (o.set i (zck (fun k => rd o k) (nd l i).f2)) := by
  have hnn := h.kids hok h1
  have hb := zck_bd (fun k => rd o k) (nd l i).f2 hnn
  refine h.put hi _ ⟨by omega, hb.2⟩ (fun hm => ?_)
  rw [← fsz_zck _ _ hnn]
  refine szI_list hC hi hm h1 _ (fun k hk => ?_)
  have hk1 := (ok_kids hok h1).2 k hk
  have hk2 := hC.kid i hi hm h1 k hk
  obtain ⟨q, rfl⟩ : ∃ q : Nat, k = (q : Int) := ⟨k.toNat, by omega⟩
  rw [Int.toNat_natCast] at hk2 ⊢
  exact h.sz q (by omega) hk2
theorem RZ.atom {l : List S56} {m : List Bool} {n i : Nat} {o : List Int} (h : RZ l m n i o) (hi : i < n) (hok : okN i (nd l i) = true) (h1 : (nd l i).f0 = 1) :
    RZ l m n (i + 1) (o.set i ((writeR (nd l i).f1.f0 (nd l i).f1.f1 (nd l i).f1.f2).1.size : Int)) ∧ (writeR (nd l i).f1.f0 (nd l i).f1.f1 (nd l i).f1.f2).1.size ≤ 1048576 := by
  have hz := szI_atom h1 hok
  have hs : (writeR (nd l i).f1.f0 (nd l i).f1.f1 (nd l i).f1.f2).1.size ≤ 1048576 := by
    have hok' := hok
    rw [okN, if_pos h1, okT, Bool.and_eq_true] at hok'
    exact write_len (by simpa using hok'.1)
  exact ⟨h.put hi _ ⟨by omega, by omega⟩ (fun _ => hz.symm), hs⟩
theorem small_add (x y : Int) (h0 : 0 ≤ x) (h : x ≤ 1099511627776) (h2 : 0 ≤ y) (h3 : y ≤ 1099511627776) : wrap64 (x + y) = x + y := by unfold wrap64; omega
theorem zero_set (o : List Int) (q : Nat) (h : q < o.length) : ∀ x y : Int, (o.set q x).set q y = o.set q y := fun x y => List.set_set ..
set_option maxHeartbeats 4000000 in
set_option maxRecDepth 100000 in
theorem rsizes_tells (A0 : Option Addr) (c0 : Nat) (l0 : List S56) (i : Nat) (hi : i < l0.length) (m : List Bool) (hC : Clo l0 m (i + 1)) (hmi : m.getD i false = true) (w : World) (hr0 : Kd.C k56 w A0 l0.length l0) (hM : Mod l0) :
    Calls Tryz.prog 45 #[.slice A0 l0.length c0, .int .i64 i] w fun e w' => ∃ (v : Value) (o : List Int), e = .returned v ∧ Kd.R (Kd.int .i64) 3 w' w.heap.size (fun _ => True) v o ∧ o.length = i + 1 ∧ rd o (i : Int) = szI l0 i ∧ Below w.heap.size w w' := by
  have HC := Aside0.mk hr0
  have HM := Aside0.mk hM
  have HCl := Aside0.mk hC
  have H3 := Aside0.mk hmi
  have HN := Aside0.mk HM.out.n
  have HI := Aside0.mk hi
  have HWi := Aside0.mk (small_up (i : Int) (by omega) (by have := HN.out; omega))
  have HL : Aside0 (((i : Int) + 1).toNat * 8 ≤ 281474976710656) := ⟨by have := HN.out; omega⟩
  clear hr0 hM hC hmi hi
  go_enter Tryz.func45, Tryz.ntmps45
  have hwi := HWi.out
  go_upto_region 2 with (refine Kd.R_make (Kd.int .i64) (w0 := w) (W := w) w.heap.size 3 rfl (N := 12) rfl 31 _ _ rfl ((i : Int) + 1) (by simp [Act.eval, HWi.out]) (by simp [Act.eval, HWi.out]) Tryz.underlying31 (.int .i64 0) 8 info3 rfl (by decide) (by decide) 0 (ok := fun _ => True) (okp := fun _ => True) rfl (fun _ hk => hk) trivial (by omega) HL.out (Below.refl _ _) (Nat.le_refl _) ?_; intro v1 w2 hR hb _ _; have HR := Aside0.mk hR; have HB2 := Aside0.mk hb; clear hR hb)
  clear hwi
  have e1 : ((i : Int) + 1).toNat = i + 1 := by omega
  rw [e1] at HR
  obtain ⟨g, cap, hv, gb, gl, _⟩ := Kd.R_form HR.out (by rw [List.length_replicate]; omega)
  rw [List.length_replicate] at hv
  subst hv
  have GB := Aside0.mk gb
  clear gb gl e1 HL HWi
  go_wp2
  go_loopw [6] (fun v wr => ∃ (q : Nat) (o : List Int), v = .int .i64 q ∧ q ≤ i + 1 ∧ Aside0 (RZ l0 m (i + 1) q o) ∧ Aside0 (Kd.R (Kd.int .i64) 3 wr w.heap.size (fun _ => True) (.slice (some ⟨g, 0, none⟩) (i + 1) cap) o) ∧ Aside0 (Below w.heap.size w wr)) (fun v _ => i + 1 - (intOf v).toNat)
  case atStart =>
    have hz : ∀ q : Nat, rd (List.replicate (i + 1) (0 : Int)) (q : Int) = 0 := fun q => by
      rw [rd_nat', List.getD_eq_getElem?_getD, List.getElem?_replicate]
      split <;> rfl
    exact ⟨0, _, rfl, Nat.zero_le _, ⟨⟨List.length_replicate, fun q hq => absurd hq (by omega), fun q => by rw [hz]; omega, fun q _ => hz q⟩⟩, HR, HB2⟩
  case round =>
    clear HR HB2
    obtain ⟨q, o, rfl, hq, HO, HR, HB⟩ := hrel
    by_cases hlt : q ≤ i
    · have hql : q < l0.length := by have := HI.out; omega
      have HQ := Aside0.mk hql
      have HW := Aside0.mk (small_up (q : Int) (by omega) (by have := HN.out; omega))
      have HKl := Aside0.mk (HM.out.k q)
      have HTl := Aside0.mk (HM.out.t q)
      go_wp2_with fail
      refine (rsound_tells A0 c0 l0 q HQ.out wr (Kd.C_below HC.out HB.out) HM.out).mono ?_
      rintro e_ w3 ⟨rfl, hb⟩
      have HB3 := Aside0.mk (below_then HB.out HB.out.size hb)
      have HR3 := Aside0.mk (Kd.R_below HR.out hb)
      clear hb HB HR
      cases hok : okN q (nd l0 q) with
      | false =>
        have HO2 := Aside0.mk (HO.out.skip (fun hmet => by have := HCl.out.ok q (by omega) hmet; rw [hok] at this; exact absurd this (by decide)))
        go_wp2
        go_roundw
        case rel => exact ⟨q + 1, o, by first | rfl | exact congrArg (Value.int IntKind.i64) HW.out, by omega, HO2, HR3, HB3⟩
        case measure => rw [HW.out]; simp [intOf]; omega
      | true =>
        obtain ⟨b0, A6, c6, rfl, f0, f1, f2, f3, f4, f5, f6, l6, g6⟩ := at_T56 (Kd.C_below HC.out HB3.out) (q : Int) (by omega) (by omega)
        rw [rd57_nd] at f0 f1 f2 f3 f4 f5 f6 l6 g6
        simp only [Int.toNat_natCast] at f0 f1 f2 f3 f4 f5 f6
        have HOl := Aside0.mk HO.out.len
        obtain ⟨m0, m1⟩ := Kd.R_celln 0 HR3.out (q : Int) (by omega) (by omega)
        rw [Int.toNat_natCast] at m0 m1
        by_cases h1 : (nd l0 q).f0 = 1
        · have hA := HO.out.atom (by omega) hok h1
          obtain ⟨x, hx⟩ : ∃ x, x = nd l0 q := ⟨_, rfl⟩
          rw [← hx] at f0 f1 f2 f3 f4 f5 f6 hA h1 hok HTl HKl
          obtain ⟨t, ht⟩ : ∃ t, t = x.f1 := ⟨_, rfl⟩
          rw [← ht] at f1 f2 f3 f4 f5 hA HTl
          have HA := Aside0.mk hA
          have h1b : (x.f0 == 1) = true := beq_iff_eq.2 h1
          clear hA g6 l6 hx f6 h1 ht
          go_wp2_with fail
          refine (rwrite_tells t.f0 t.f1 t.f2 t.f3 t.f4 HTl.out w3).mono ?_
          rintro e_ w4 ⟨rfl, hb⟩
          have HB4 := Aside0.mk (below_then HB3.out HB3.out.size hb)
          have HR4 := Aside0.mk (Kd.R_below HR3.out hb)
          clear hb f0 f1 f2 f3 f4 f5 m0 m1 HB3 HR3
          obtain ⟨s, hs⟩ : ∃ s, s = (writeR t.f0 t.f1 t.f2).1 := ⟨_, rfl⟩
          rw [← hs] at HA ⊢
          clear hs
          obtain ⟨m0, m1⟩ := Kd.R_celln 0 HR4.out (q : Int) (by omega) (by omega)
          rw [Int.toNat_natCast] at m0 m1
          have HP := Aside0.mk (Kd.R_putg HR4.out (q : Int) (s.size : Int)).1
          go_upto_region 18 with fail
          clear m0 m1
          generalize hw3 : World.setCell _ _ _ = w5
          have HR5 : Aside0 (Kd.R (Kd.int .i64) 3 w5 w.heap.size (fun _ => True) (.slice (some ⟨g, 0, none⟩) (i + 1) cap) (o.set q (s.size : Int))) := ⟨by rw [← hw3]; have h := HP.out; rw [Int.toNat_natCast] at h; exact h⟩
          have HB5 : Aside0 (Below w.heap.size w w5) := ⟨by rw [← hw3]; exact HB4.out.setCell GB.out _⟩
          clear HP hw3
          obtain ⟨m0, m1⟩ := Kd.R_celln 0 HR5.out (q : Int) (by omega) (by omega)
          rw [rd_rdOf, rd_set o q q _ (by rw [HOl.out]; omega), if_pos rfl, Int.toNat_natCast] at m0
          rw [Int.toNat_natCast] at m1
          have hsm := HA.out.2
          go_wp2
          go_roundw
          case rel => exact ⟨q + 1, o.set q (s.size : Int), by first | rfl | exact congrArg (Value.int IntKind.i64) HW.out, by omega, ⟨HA.out.1⟩, HR5, HB5⟩
          case measure => rw [HW.out]; simp [intOf]; omega
        · have HO2 := Aside0.mk (HO.out.list HCl.out (by omega) hok h1)
          have HNN := Aside0.mk (HO.out.kids hok h1)
          have HKin := Aside0.mk (ok_kids hok h1).2
          have HBd := Aside0.mk HO.out.bd
          have h1b : ((nd l0 q).f0 == 1) = false := beq_eq_false_iff_ne.2 h1
          obtain ⟨x, hx⟩ : ∃ x, x = nd l0 q := ⟨_, rfl⟩
          rw [← hx] at f0 HO2 HNN HKin HKl h1b
          have HXx := Aside0.mk hx
          have HP := Aside0.mk (Kd.R_putg HR3.out (q : Int) 2).1
          clear f1 f2 f3 f4 f5 f6 l6 g6 h1 hok hx
          go_upto_region 10 with fail
          clear m0 m1 f0
          generalize hw3 : World.setCell _ _ _ = w5
          have HR5 : Aside0 (Kd.R (Kd.int .i64) 3 w5 w.heap.size (fun _ => True) (.slice (some ⟨g, 0, none⟩) (i + 1) cap) (o.set q (zck (fun k => rd o k) (x.f2.take 0)))) := ⟨by rw [← hw3]; have h := HP.out; rw [Int.toNat_natCast] at h; rw [List.take_zero]; exact h⟩
          have HB5 : Aside0 (Below w.heap.size w w5) := ⟨by rw [← hw3]; exact HB3.out.setCell GB.out _⟩
          clear HP hw3 HB3 HR3 h1b
          go_wp2
          go_loopw [9] (fun v wr => ∃ (j : Nat), v = .int .i64 j ∧ j ≤ x.f2.length ∧ Aside0 (Kd.R (Kd.int .i64) 3 wr w.heap.size (fun _ => True) (.slice (some ⟨g, 0, none⟩) (i + 1) cap) (o.set q (zck (fun k => rd o k) (x.f2.take j)))) ∧ Aside0 (Below w.heap.size w wr)) (fun v _ => x.f2.length - (intOf v).toNat)
          case atStart => exact ⟨0, rfl, Nat.zero_le _, HR5, HB5⟩
          case round =>
            clear HR5 HB5
            obtain ⟨j, rfl, hj, HR, HB⟩ := hrel
            by_cases hlj : j < x.f2.length
            · have hmem : rd x.f2 (j : Int) ∈ x.f2 := by rw [rd_nat', List.getD_eq_getElem?_getD, List.getElem?_eq_getElem hlj]; exact List.getElem_mem hlj
              have hk := HKin.out _ hmem
              have HNx := Aside0.mk (zck_next (fun k => rd o k) x.f2 j hlj HNN.out)
              have hXb := zck_bd (fun k => rd o k) (x.f2.take j) (fun k hk => HNN.out k (List.mem_of_mem_take hk))
              have HWj := Aside0.mk (wrap_up j (Nat.le_trans (Nat.le_of_lt hlj) HKl.out))
              obtain ⟨k, hke⟩ : ∃ k : Nat, rd x.f2 (j : Int) = (k : Int) := ⟨(rd x.f2 (j : Int)).toNat, by omega⟩
              rw [hke] at hk HNx
              have HKe := Aside0.mk hke
              obtain ⟨X, hXe⟩ : ∃ X, X = zck (fun k => rd o k) (x.f2.take j) := ⟨_, rfl⟩
              rw [← hXe] at HR HNx hXb
              obtain ⟨y, hy⟩ : ∃ y, y = rd o (k : Int) := ⟨_, rfl⟩
              have HYy := Aside0.mk hy
              have hNx : zck (fun k => rd o k) (x.f2.take (j + 1)) = min (X + (if j = 0 then 0 else 1) + y) 1048577 := by rw [hy]; exact HNx.out
              clear HNx
              have HNx := Aside0.mk hNx
              have hyb := HBd.out k
              rw [← hy] at hyb
              have hk9 : (k : Int) < ((i + 1 : Nat) : Int) := by omega
              have hq9 : (q : Int) < ((i + 1 : Nat) : Int) := by omega
              have hqk : ¬ q = k := by omega
              have hk10 : (k : Int) < (i : Int) + 1 := by omega
              have hq10 : (q : Int) < (i : Int) + 1 := by omega
              clear hmem hke hXe hy hNx
              by_cases hj0 : j = 0
              · have HJ0 := Aside0.mk hj0
                have hg : decide ((0 : Int) < (j : Int)) = false := decide_eq_false (by omega)
                have hg2 : decide (0 < j) = false := decide_eq_false (by omega)
                have HNy : Aside0 (X + (if j = 0 then 0 else 1) + y = X + y) := ⟨by rw [if_pos hj0]; omega⟩
                clear hj0
                obtain ⟨b1, A6, c6, hA, f0, f1, f2, f3, f4, f5, f6, l6, g6⟩ := at_T56 (Kd.C_below HC.out HB.out) (q : Int) (by omega) (by omega)
                injection hA with hA
                subst hA
                rw [rd57_nd] at f6 l6 g6
                simp only [Int.toNat_natCast] at f6
                rw [← HXx.out] at f6 l6 g6
                clear f0 f1 f2 f3 f4 f5 l6
                obtain ⟨b6, rfl, ej⟩ := Kd.at_int g6 j (by omega) (by omega)
                simp only [Int.toNat_natCast] at ej
                rw [HKe.out] at ej
                obtain ⟨k0, k1⟩ := Kd.R_celln 0 HR.out (k : Int) (by omega) (by omega)
                obtain ⟨m0, m1⟩ := Kd.R_celln 0 HR.out (q : Int) (by omega) (by omega)
                rw [rd_rdOf, rd_set o q k X (by rw [HOl.out]; omega), if_neg hqk, Int.toNat_natCast, ← HYy.out] at k0
                rw [rd_rdOf, rd_set o q q X (by rw [HOl.out]; omega), if_pos rfl, Int.toNat_natCast] at m0
                rw [Int.toNat_natCast] at k1 m1
                clear g6
                go_upto_region 15 with fail
                have HWs := Aside0.mk (small_add (X) y (by omega) (by omega) (by omega) (by omega))
                have HP := Aside0.mk (Kd.R_putg HR.out (q : Int) (wrap64 (X + y))).1
                have hws := HWs.out
                go_wp2
                go_still_tail 19, (by kernel_rfl)
                clear k0 k1 m0 ej f6 hws
                change wpList _ _ _ _ _ (World.drew _)
                generalize hw4 : World.drew _ = w4
                have HB4 : Aside0 (Below w.heap.size w w4) := ⟨by rw [← hw4]; exact below_drew_any HB.out⟩
                have HR4 : Aside0 (Kd.R (Kd.int .i64) 3 w4 w.heap.size (fun _ => True) (.slice (some ⟨g, 0, none⟩) (i + 1) cap) (o.set q X)) := ⟨by rw [← hw4]; exact Kd.R_drew HR.out⟩
                clear hw4 m1 HP HB HR
                obtain ⟨m0, m1⟩ := Kd.R_celln 0 HR4.out (q : Int) (by omega) (by omega)
                rw [rd_rdOf, rd_set o q q X (by rw [HOl.out]; omega), if_pos rfl, Int.toNat_natCast] at m0
                rw [Int.toNat_natCast] at m1
                have HP := Aside0.mk (Kd.R_putg HR4.out (q : Int) (X + y)).1
                go_upto_region 16 with fail
                clear m0 m1
                generalize hw3 : World.setCell _ _ _ = w3
                have HR3 : Aside0 (Kd.R (Kd.int .i64) 3 w3 w.heap.size (fun _ => True) (.slice (some ⟨g, 0, none⟩) (i + 1) cap) (o.set q (X + y))) := ⟨by rw [← hw3]; have h := HP.out; rw [Int.toNat_natCast, zero_set o q (by rw [HOl.out]; omega)] at h; first | exact h | (rw [HWs.out]; exact h)⟩
                have HB3 : Aside0 (Below w.heap.size w w3) := ⟨by rw [← hw3]; exact HB4.out.setCell GB.out _⟩
                clear HP hw3
                obtain ⟨m0, m1⟩ := Kd.R_celln 0 HR3.out (q : Int) (by omega) (by omega)
                rw [rd_rdOf, rd_set o q q (X + y) (by rw [HOl.out]; omega), if_pos rfl, Int.toNat_natCast] at m0
                rw [Int.toNat_natCast] at m1
                by_cases hcap : 1048576 < X + y
                · have HP := Aside0.mk (Kd.R_putg HR3.out (q : Int) 1048577).1
                  have HE9 : Aside0 (o.set q (zck (fun k => rd o k) (x.f2.take (j + 1))) = (o.set q (X + y)).set (q : Int).toNat 1048577) := ⟨by rw [Int.toNat_natCast, zero_set o q (by rw [HOl.out]; omega), HNx.out, HNy.out]; congr 1; omega⟩
                  go_wp2
                  go_roundw
                  case rel => exact ⟨j + 1, by first | rfl | exact congrArg (Value.int IntKind.i64) HWj.out, hlj, ⟨by rw [HE9.out]; exact HP.out⟩, ⟨HB3.out.setCell GB.out _⟩⟩
                  case measure => rw [HWj.out]; simp [intOf]; omega
                · have HE9 : Aside0 (o.set q (zck (fun k => rd o k) (x.f2.take (j + 1))) = o.set q (X + y)) := ⟨by rw [HNx.out, HNy.out]; congr 1; omega⟩
                  go_wp2
                  go_roundw
                  case rel => exact ⟨j + 1, by first | rfl | exact congrArg (Value.int IntKind.i64) HWj.out, hlj, ⟨by rw [HE9.out]; exact HR3.out⟩, HB3⟩
                  case measure => rw [HWj.out]; simp [intOf]; omega
              · have hg : decide ((0 : Int) < (j : Int)) = true := decide_eq_true (by omega)
                have hg2 : decide (0 < j) = true := decide_eq_true (by omega)
                have HNy : Aside0 (X + (if j = 0 then 0 else 1) + y = (X + 1) + y) := ⟨by rw [if_neg hj0]⟩
                obtain ⟨b1, A6, c6, hA, f0, f1, f2, f3, f4, f5, f6, l6, g6⟩ := at_T56 (Kd.C_below HC.out HB.out) (q : Int) (by omega) (by omega)
                injection hA with hA
                subst hA
                rw [rd57_nd] at f6 l6 g6
                simp only [Int.toNat_natCast] at f6
                rw [← HXx.out] at f6 l6 g6
                clear f0 f1 f2 f3 f4 f5 l6
                obtain ⟨b6, rfl, ej⟩ := Kd.at_int g6 j (by omega) (by omega)
                simp only [Int.toNat_natCast] at ej
                rw [HKe.out] at ej
                obtain ⟨k0, k1⟩ := Kd.R_celln 0 HR.out (k : Int) (by omega) (by omega)
                obtain ⟨m0, m1⟩ := Kd.R_celln 0 HR.out (q : Int) (by omega) (by omega)
                rw [rd_rdOf, rd_set o q k X (by rw [HOl.out]; omega), if_neg hqk, Int.toNat_natCast, ← HYy.out] at k0
                rw [rd_rdOf, rd_set o q q X (by rw [HOl.out]; omega), if_pos rfl, Int.toNat_natCast] at m0
                rw [Int.toNat_natCast] at k1 m1
                clear g6
                have HWX := Aside0.mk (small_up X (by omega) (by omega))
                have HPa := Aside0.mk (Kd.R_putg HR.out (q : Int) (wrap64 (X + 1))).1
                go_upto_region 15 with fail
                clear m0 m1 k0 k1 ej f6
                generalize hw3 : World.setCell _ _ _ = w2
                have HRa : Aside0 (Kd.R (Kd.int .i64) 3 w2 w.heap.size (fun _ => True) (.slice (some ⟨g, 0, none⟩) (i + 1) cap) (o.set q (X + 1))) := ⟨by rw [← hw3]; have h := HPa.out; rw [Int.toNat_natCast, zero_set o q (by rw [HOl.out]; omega), HWX.out] at h; first | exact h | (rw [HWX.out]; exact h)⟩
                have HBa : Aside0 (Below w.heap.size w w2) := ⟨by rw [← hw3]; exact HB.out.setCell GB.out _⟩
                clear HPa hw3 HR HB HWX
                obtain ⟨b1, A6, c6, hA, f0, f1, f2, f3, f4, f5, f6, l6, g6⟩ := at_T56 (Kd.C_below HC.out HBa.out) (q : Int) (by omega) (by omega)
                injection hA with hA
                subst hA
                rw [rd57_nd] at f6 l6 g6
                simp only [Int.toNat_natCast] at f6
                rw [← HXx.out] at f6 l6 g6
                clear f0 f1 f2 f3 f4 f5 l6
                obtain ⟨b6, rfl, ej⟩ := Kd.at_int g6 j (by omega) (by omega)
                simp only [Int.toNat_natCast] at ej
                rw [HKe.out] at ej
                obtain ⟨k0, k1⟩ := Kd.R_celln 0 HRa.out (k : Int) (by omega) (by omega)
                obtain ⟨m0, m1⟩ := Kd.R_celln 0 HRa.out (q : Int) (by omega) (by omega)
                rw [rd_rdOf, rd_set o q k (X + 1) (by rw [HOl.out]; omega), if_neg hqk, Int.toNat_natCast, ← HYy.out] at k0
                rw [rd_rdOf, rd_set o q q (X + 1) (by rw [HOl.out]; omega), if_pos rfl, Int.toNat_natCast] at m0
                rw [Int.toNat_natCast] at k1 m1
                clear g6
                have HWs := Aside0.mk (small_add ((X + 1)) y (by omega) (by omega) (by omega) (by omega))
                have HP := Aside0.mk (Kd.R_putg HRa.out (q : Int) (wrap64 ((X + 1) + y))).1
                have hws := HWs.out
                go_wp2
                go_still_tail 19, (by kernel_rfl)
                clear k0 k1 m0 ej f6 hws
                change wpList _ _ _ _ _ (World.drew _)
                generalize hw4 : World.drew _ = w4
                have HB4 : Aside0 (Below w.heap.size w w4) := ⟨by rw [← hw4]; exact below_drew_any HBa.out⟩
                have HR4 : Aside0 (Kd.R (Kd.int .i64) 3 w4 w.heap.size (fun _ => True) (.slice (some ⟨g, 0, none⟩) (i + 1) cap) (o.set q (X + 1))) := ⟨by rw [← hw4]; exact Kd.R_drew HRa.out⟩
                clear hw4 m1 HP HBa HRa
                obtain ⟨m0, m1⟩ := Kd.R_celln 0 HR4.out (q : Int) (by omega) (by omega)
                rw [rd_rdOf, rd_set o q q (X + 1) (by rw [HOl.out]; omega), if_pos rfl, Int.toNat_natCast] at m0
                rw [Int.toNat_natCast] at m1
                have HP := Aside0.mk (Kd.R_putg HR4.out (q : Int) ((X + 1) + y)).1
                go_upto_region 16 with fail
                clear m0 m1
                generalize hw3 : World.setCell _ _ _ = w3
                have HR3 : Aside0 (Kd.R (Kd.int .i64) 3 w3 w.heap.size (fun _ => True) (.slice (some ⟨g, 0, none⟩) (i + 1) cap) (o.set q ((X + 1) + y))) := ⟨by rw [← hw3]; have h := HP.out; rw [Int.toNat_natCast, zero_set o q (by rw [HOl.out]; omega)] at h; first | exact h | (rw [HWs.out]; exact h)⟩
                have HB3 : Aside0 (Below w.heap.size w w3) := ⟨by rw [← hw3]; exact HB4.out.setCell GB.out _⟩
                clear HP hw3
                obtain ⟨m0, m1⟩ := Kd.R_celln 0 HR3.out (q : Int) (by omega) (by omega)
                rw [rd_rdOf, rd_set o q q ((X + 1) + y) (by rw [HOl.out]; omega), if_pos rfl, Int.toNat_natCast] at m0
                rw [Int.toNat_natCast] at m1
                by_cases hcap : 1048576 < (X + 1) + y
                · have HP := Aside0.mk (Kd.R_putg HR3.out (q : Int) 1048577).1
                  have HE9 : Aside0 (o.set q (zck (fun k => rd o k) (x.f2.take (j + 1))) = (o.set q ((X + 1) + y)).set (q : Int).toNat 1048577) := ⟨by rw [Int.toNat_natCast, zero_set o q (by rw [HOl.out]; omega), HNx.out, HNy.out]; congr 1; omega⟩
                  go_wp2
                  go_roundw
                  case rel => exact ⟨j + 1, by first | rfl | exact congrArg (Value.int IntKind.i64) HWj.out, hlj, ⟨by rw [HE9.out]; exact HP.out⟩, ⟨HB3.out.setCell GB.out _⟩⟩
                  case measure => rw [HWj.out]; simp [intOf]; omega
                · have HE9 : Aside0 (o.set q (zck (fun k => rd o k) (x.f2.take (j + 1))) = o.set q ((X + 1) + y)) := ⟨by rw [HNx.out, HNy.out]; congr 1; omega⟩
                  go_wp2
                  go_roundw
                  case rel => exact ⟨j + 1, by first | rfl | exact congrArg (Value.int IntKind.i64) HWj.out, hlj, ⟨by rw [HE9.out]; exact HR3.out⟩, HB3⟩
                  case measure => rw [HWj.out]; simp [intOf]; omega
            · obtain rfl : j = x.f2.length := by omega
              have hR := HR.out
              rw [List.take_length] at hR
              have hXb := zck_bd (fun k => rd o k) x.f2 HNN.out
              obtain ⟨b1, A6, c6, hA, f0, f1, f2, f3, f4, f5, f6, l6, g6⟩ := at_T56 (Kd.C_below HC.out HB.out) (q : Int) (by omega) (by omega)
              injection hA with hA
              subst hA
              rw [rd57_nd] at f6 l6 g6
              simp only [Int.toNat_natCast] at f6
              rw [← HXx.out] at f6 l6 g6
              clear f0 f1 f2 f3 f4 f5 l6 g6
              obtain ⟨X, hXe⟩ : ∃ X, X = zck (fun k => rd o k) x.f2 := ⟨_, rfl⟩
              rw [← hXe] at hR HO2 hXb
              obtain ⟨m0, m1⟩ := Kd.R_celln 0 hR (q : Int) (by omega) (by omega)
              rw [rd_rdOf, rd_set o q q X (by rw [HOl.out]; omega), if_pos rfl, Int.toNat_natCast] at m0
              rw [Int.toNat_natCast] at m1
              have HRf := Aside0.mk hR
              have HP := Aside0.mk (Kd.R_putg hR (q : Int) 1048577).1
              have hq9 : (q : Int) < ((i + 1 : Nat) : Int) := by omega
              clear hXe hR hlj hj HR
              by_cases hcap : 1048576 < X
              · have HE9 : Aside0 (o.set q X = (o.set q X).set (q : Int).toNat 1048577) := ⟨by rw [Int.toNat_natCast, zero_set o q (by rw [HOl.out]; omega)]; congr 1; omega⟩
                go_wp2
                go_roundw
                case rel => exact ⟨q + 1, o.set q X, by first | rfl | exact congrArg (Value.int IntKind.i64) HW.out, by omega, HO2, ⟨by rw [HE9.out]; exact HP.out⟩, ⟨HB.out.setCell GB.out _⟩⟩
                case measure => rw [HW.out]; simp [intOf]; omega
              · go_wp2
                go_roundw
                case rel => exact ⟨q + 1, o.set q X, by first | rfl | exact congrArg (Value.int IntKind.i64) HW.out, by omega, HO2, HRf, HB⟩
                case measure => rw [HW.out]; simp [intOf]; omega
    · obtain rfl : q = i + 1 := by omega
      have HS := Aside0.mk (HO.out.sz i (by omega) H3.out)
      have HOl := Aside0.mk HO.out.len
      clear hlt hq
      go_wp2
      go_ret
      exact ⟨_, o, rfl, HR.out, HOl.out, HS.out, HB.out⟩
set_option maxHeartbeats 8000000 in
set_option maxRecDepth 100000 in
theorem rnode_tells (l0 : List S56) (A0 : Option Addr) (c0 : Nat) (w0 : World) (hr0 : Kd.C k56 w0 A0 l0.length l0) : ∀ (d : Nat) (i : Int) (w : World), sndL l0 d i = true → Below w0.heap.size w0 w → (sxL l0 d i).length ≤ 1099511627776 →
    Calls Tryz.prog 46 #[.slice A0 l0.length c0, .int .i64 i] w fun e w' => e = .returned (.string (strOf (sxL l0 d i))) ∧ Below w0.heap.size w0 w'
  | 0, i, w, hs, hb, hz => by cases hs
  | d + 1, i, w, hs, hb, hz => by
    have IH := Aside0.mk (rnode_tells l0 A0 c0 w0 hr0 d)
    rw [sndL, Bool.and_eq_true, Bool.and_eq_true] at hs
    obtain ⟨⟨hi0, hi1⟩, hs⟩ := hs
    have hi0 := of_decide_eq_true hi0
    have hi1 := of_decide_eq_true hi1
    have HR0 := Aside0.mk hr0
    obtain ⟨ad, A6, c6, rfl, e0, e1, e2, e3, e4, e5, e6, hl6, hC6⟩ := at_T56 (Kd.C_below hr0 hb) i hi0 hi1
    have HB := Aside0.mk hb
    have hX : sxL l0 (d + 1) i = if (rd_T56 l0 i).f0 = 1 then (writeR (rd_T56 l0 i).f1.f0 (rd_T56 l0 i).f1.f1 (rd_T56 l0 i).f1.f2).1.data.toList else 40 :: (kidsL (sxL l0 d) true (rd_T56 l0 i).f2 ++ [41]) := by rw [sxL]
    obtain ⟨n, hn⟩ : ∃ n, n = rd_T56 l0 i := ⟨_, rfl⟩
    rw [← hn] at e0 e1 e2 e3 e4 e5 e6 hl6 hX hs hC6
    have HNn := Aside0.mk hn
    have HmX : Aside0 (n.f2.length ≤ 9223372036854775807) := ⟨by have := hC6.2.1; simpa [maxLen] using this⟩
    clear hr0 hC6 hb hn hl6
    cases h1 : (n.f0 == 1) with
    | true =>
      have h1' : n.f0 = 1 := by simpa using h1
      rw [if_pos h1'] at hX hs
      have HT := Aside0.mk (of_decide_eq_true hs)
      have HX : Aside0 (sxL l0 (d + 1) i = (writeR n.f1.f0 n.f1.f1 n.f1.f2).1.data.toList) := ⟨hX⟩
      clear hs hX h1' hz e6
      go_enter Tryz.func46, Tryz.ntmps46
      go_wp2_with fail
      refine (rwrite_tells n.f1.f0 n.f1.f1 n.f1.f2 n.f1.f3 n.f1.f4 HT.out _).mono ?_
      rintro e w1 ⟨rfl, hb1⟩
      have HB1 := Aside0.mk (below_then HB.out HB.out.size hb1)
      clear hb1
      go_wp2
      go_ret
      rw [HX.out, strOf_data]
      exact ⟨rfl, HB1.out⟩
    | false =>
      have h1' : ¬ n.f0 = 1 := by simpa using h1
      rw [if_neg h1'] at hX hs
      have HX : Aside0 (sxL l0 (d + 1) i = 40 :: (kidsL (sxL l0 d) true n.f2 ++ [41])) := ⟨hX⟩
      have HS : Aside0 (∀ j : Nat, j < n.f2.length → sndL l0 d (rd n.f2 j) = true) := ⟨fun j hj => by
        have e : rd n.f2 (j : Int) = n.f2[j] := by unfold rd; simp [hj]
        rw [e]
        exact List.all_eq_true.1 hs _ (List.getElem_mem hj)⟩
      rw [hX, List.length_cons, List.length_append, List.length_singleton] at hz
      have HZ : Aside0 (∀ j : Nat, j < n.f2.length → 1 + (kidsL (sxL l0 d) true (n.f2.take j)).length + (if j = 0 then 0 else 1) + (sxL l0 d (rd n.f2 j)).length ≤ 1099511627776) := ⟨fun j hj => by
        have := kids_le (sxL l0 d) n.f2 j hj
        omega⟩
      have HZ2 := Aside0.mk hz
      clear hs hX h1' hz e1 e2 e3 e4 e5 e6
      go_enter Tryz.func46, Tryz.ntmps46
      go_wp2
      clear e0
      go_loopw [7, 8] (fun s ix wr => ∃ (j : Nat) (out : ByteArray), s = .string out ∧ ix = .int .i64 j ∧ j ≤ n.f2.length ∧ Aside0 (out = strOf (40 :: kidsL (sxL l0 d) true (n.f2.take j))) ∧ Aside0 (Below w0.heap.size w0 wr)) (fun _ ix _ => n.f2.length - (intOf ix).toNat)
      case atStart => exact ⟨0, _, rfl, by go_num, Nat.zero_le _, ⟨rfl⟩, HB⟩
      case round =>
        obtain ⟨j, out, rfl, rfl, hj, HO, HBr⟩ := hrel
        obtain ⟨b1, A6, c6, hA, e0, e1, e2, e3, e4, e5, e6, hl6, hC6⟩ := at_T56 (Kd.C_below HR0.out HBr.out) i hi0 hi1
        injection hA with hA
        subst hA
        rw [← HNn.out] at e6 hC6
        clear e0 e1 e2 e3 e4 e5 hl6
        have hmx := HmX.out
        by_cases hlt : j < n.f2.length
        · obtain ⟨adk, rfl, ek⟩ := Kd.at_int hC6 j (by omega) (by omega)
          simp only [Int.toNat_natCast] at ek
          have HZj := Aside0.mk (HZ.out j hlt)
          have HSj := Aside0.mk (HS.out j hlt)
          have HTj := Aside0.mk (kids_take (sxL l0 d) n.f2 j hlt)
          obtain ⟨kid, hkid⟩ : ∃ kid, kid = rd n.f2 j := ⟨_, rfl⟩
          rw [← hkid] at ek HZj HSj HTj
          clear hkid hC6
          have hso : out.size ≤ 1099511627776 := by rw [HO.out, strOf_size, List.length_cons]; have := HZj.out; omega
          have hsx : (strOf (sxL l0 d kid)).size ≤ 1099511627776 := by rw [strOf_size]; have := HZj.out; omega
          have hwj : wrap64 ((j : Int) + 1) = (j : Int) + 1 := by unfold wrap64; omega
          by_cases hj0 : j = 0
          · have hg : decide ((0 : Int) < (j : Int)) = false := decide_eq_false (by omega)
            have hg2 : decide (0 < j) = false := decide_eq_false (by omega)
            have HJ0 := Aside0.mk hj0
            clear hj0
            go_wp2_with fail
            refine (IH.out kid wr HSj.out HBr.out (by have := HZj.out; omega)).mono ?_
            rintro e w3 ⟨rfl, hb3⟩
            have HB3 := Aside0.mk hb3
            obtain ⟨X, hX⟩ : ∃ X, X = strOf (sxL l0 d kid) := ⟨_, rfl⟩
            rw [← hX] at hsx ⊢
            have HO3 : Aside0 (out ++ X = strOf (40 :: kidsL (sxL l0 d) true (n.f2.take (j + 1)))) := ⟨by rw [HO.out, hX, HTj.out, if_pos HJ0.out, List.nil_append, strOf_append, List.cons_append]⟩
            clear hb3 hX
            go_wp2
            go_roundw
            case rel => exact ⟨j + 1, out ++ X, rfl, by go_num, by omega, HO3, HB3⟩
            case measure => simp [intOf]; omega
          · have hg : decide ((0 : Int) < (j : Int)) = true := decide_eq_true (by omega)
            have hg2 : decide (0 < j) = true := decide_eq_true (by omega)
            have HJ0 := Aside0.mk hj0
            have hso2 : (out ++ (⟨#[32]⟩ : ByteArray)).size ≤ 1099511627776 := by rw [ByteArray.size_append, HO.out, strOf_size, List.length_cons]; have := HZj.out; rw [if_neg hj0] at this; show _ + 1 ≤ _; omega
            clear hj0
            go_wp2_with fail
            refine (IH.out kid wr HSj.out HBr.out (by have := HZj.out; omega)).mono ?_
            rintro e w3 ⟨rfl, hb3⟩
            have HB3 := Aside0.mk hb3
            obtain ⟨X, hX⟩ : ∃ X, X = strOf (sxL l0 d kid) := ⟨_, rfl⟩
            rw [← hX] at hsx ⊢
            have HO3 : Aside0 ((out ++ (⟨#[32]⟩ : ByteArray)) ++ X = strOf (40 :: kidsL (sxL l0 d) true (n.f2.take (j + 1)))) := ⟨by rw [HO.out, hX, HTj.out, if_neg HJ0.out, show (⟨#[32]⟩ : ByteArray) = strOf [32] from rfl, strOf_append, strOf_append]; simp⟩
            clear hb3 hX
            go_wp2
            go_roundw
            case rel => exact ⟨j + 1, (out ++ (⟨#[32]⟩ : ByteArray)) ++ X, rfl, by go_num, by omega, HO3, HB3⟩
            case measure => simp [intOf]; omega
        · obtain rfl : j = n.f2.length := by omega
          have HF : Aside0 (out ++ (⟨#[41]⟩ : ByteArray) = strOf (sxL l0 (d + 1) i)) := ⟨by have := HO.out; rw [List.take_length] at this; rw [this, HX.out, show (⟨#[41]⟩ : ByteArray) = strOf [41] from rfl, strOf_append, List.cons_append]⟩
          have hso : out.size ≤ 1099511627776 := by have := HO.out; rw [List.take_length] at this; rw [this, strOf_size, List.length_cons]; have := HZ2.out; omega
          clear hC6
          go_wp2
          go_ret
          rw [← HF.out]
          exact ⟨rfl, HBr.out⟩
set_option maxHeartbeats 4000000 in
set_option maxRecDepth 100000 in
theorem rtext_tells (A0 : Option Addr) (c0 : Nat) (l0 : List S56) (a1 : Int) (w : World) (hr0 : Kd.C k56 w A0 l0.length l0) (hM : Mod l0) :
    Calls Tryz.prog 23 #[.slice A0 l0.length c0, .int .i64 a1] w fun e w' => e = .returned (.tuple #[.string (textS l0 a1).1, .int .i64 (textS l0 a1).2]) ∧ Below w.heap.size w w' := by
  have HC := Aside0.mk hr0
  have HM := Aside0.mk hM
  clear hr0 hM
  go_enter Tryz.func23, Tryz.ntmps23
  go_wp2_with fail
  refine (rcheck_tells A0 c0 l0 a1 w HC.out HM.out).mono ?_
  rintro e_ w1 ⟨rfl, hb⟩
  have HB1 := Aside0.mk hb
  clear hb
  by_cases hf : (askR l0 a1).2 = 0
  · have HE : Aside0 (textS l0 a1 = (if 1048576 < (txN l0 a1.toNat).length then (⟨#[]⟩, 2) else (strOf (txN l0 a1.toNat), 0))) := ⟨by rw [textS, if_pos hf]⟩
    obtain ⟨g0, g1, g2, g3, g4⟩ := ask_ok hf
    obtain ⟨i, rfl⟩ : ∃ i : Nat, a1 = (i : Int) := ⟨a1.toNat, by omega⟩
    rw [Int.toNat_natCast] at g2 g3 g4 HE
    obtain ⟨m, hm⟩ : ∃ m, m = (askR l0 (i : Int)).1 := ⟨_, rfl⟩
    rw [← hm] at g2 g3 g4
    rw [hf]
    have HCl := Aside0.mk g4
    have H3 := Aside0.mk g3
    have HI : Aside0 (i < l0.length) := ⟨by omega⟩
    clear g0 g1 g2 g3 g4 hm hf
    go_wp2_with fail
    refine (rsizes_tells A0 c0 l0 i HI.out m HCl.out H3.out w1 (Kd.C_below HC.out HB1.out) HM.out).mono ?_
    rintro e_ w2 ⟨v, o, rfl, hR, hl, hz, hb⟩
    obtain ⟨g, cap, rfl, _, _, _⟩ := Kd.R_form hR (by omega)
    obtain ⟨k0, k1⟩ := Kd.R_celln 0 hR (i : Int) (by omega) (by omega)
    rw [rd_rdOf, hz, Int.toNat_natCast] at k0
    rw [Int.toNat_natCast] at k1
    have hi9 : (i : Int) < ((o.length : Nat) : Int) := by omega
    have HB2 := Aside0.mk (below_then HB1.out HB1.out.size hb)
    clear hb hR hl hz
    by_cases hbig : 1048576 < (txN l0 i).length
    · have hs : 1048576 < szI l0 i := by unfold szI; omega
      have HE2 : Aside0 (textS l0 (i : Int) = (⟨#[]⟩, 2)) := ⟨by rw [HE.out, if_pos hbig]⟩
      clear hbig
      obtain ⟨z, hzz⟩ : ∃ z, z = szI l0 i := ⟨_, rfl⟩
      rw [← hzz] at hs k0
      clear hzz
      go_wp2
      go_ret2
      rw [HE2.out]
      exact ⟨rfl, HB2.out⟩
    · have hs : ¬ 1048576 < szI l0 i := by unfold szI; omega
      have HE2 : Aside0 (textS l0 (i : Int) = (strOf (txN l0 i), 0)) := ⟨by rw [HE.out, if_neg hbig]⟩
      have HSn := Aside0.mk (snd_deep HM.out HI.out HCl.out i (by omega) H3.out (i + 1) (by omega))
      have HLn : Aside0 ((sxL l0 (i + 1) (i : Int)).length ≤ 1099511627776) := ⟨Nat.le_trans (Nat.le_of_not_lt hbig) (by decide)⟩
      clear hbig
      obtain ⟨z, hzz⟩ : ∃ z, z = szI l0 i := ⟨_, rfl⟩
      rw [← hzz] at hs k0
      clear hzz
      go_wp2_with fail
      refine (rnode_tells l0 A0 c0 w HC.out (i + 1) (i : Int) w2 HSn.out HB2.out HLn.out).mono ?_
      rintro e_ w3 ⟨rfl, hb⟩
      have HB3 := Aside0.mk hb
      clear hb
      go_wp2
      go_ret2
      rw [HE2.out]
      exact ⟨rfl, HB3.out⟩
  · have HE : Aside0 (textS l0 a1 = (⟨#[]⟩, (askR l0 a1).2)) := ⟨by rw [textS, if_neg hf]⟩
    obtain ⟨f, hff⟩ : ∃ f, f = (askR l0 a1).2 := ⟨_, rfl⟩
    rw [← hff] at hf HE ⊢
    have hfb : (f != 0) = true := bne_iff_ne.2 hf
    clear hff hf
    go_wp2
    go_ret2
    rw [HE.out]
    exact ⟨rfl, HB1.out⟩
end Go.Proofs.YthklnopfgoekeaaGreatDoor.X
