/- SexpOnce: each node that is read is the kid of one list or a root, just once: the pure part. -/
import Derived.Test.YthklnopfgoekeaaDoorPParse
import Derived.Test.YthklnopfgoekeaaDoorPAlive
import Derived.Test.YthklnopfgoekeaaDoorHOnce
namespace Go.Proofs.YthklnopfgoekeaaDoor.X
open Go.RowKit Go.Proofs.YthklnopfgoekeaaDoorW.PrintWords Go.Proofs.YthklnopfgoekeaaDoorW.PrintLast Go.Proofs.YthklnopfgoekeaaDoorW.PrintMore
set_option linter.unusedVariables false
theorem wrapS {a : Int} (h0 : -9223372036854775808 ≤ a) (h1 : a < 9223372036854775808) : wrap64 a = a := by unfold wrap64; omega
theorem rd_get {x : List Int} {i : Nat} (h : i < x.length) : rd x (i : Int) = x[i] := by unfold rd; simp [h]
theorem rd57_get {l : List S57} {i : Nat} (h : i < l.length) : rd_T57 l (i : Int) = l[i] := by
  unfold rd_T57
  simp only [Int.toNat_natCast, List.getD_eq_getElem?_getD, List.getElem?_eq_getElem h, Option.getD_some]
/-- The table tells how often each node has been named. -/
def Tms (n : Nat) (pre x : List Int) : Prop := x.length = n ∧ ∀ v : Nat, v < n → rd x (v : Int) = ((pre.count (v : Int) : Nat) : Int)
theorem tms_bump {n : Nat} {pre x : List Int} {r : Int} (h : Tms n pre x) (h0 : 0 ≤ r) (h1 : r < (n : Int)) (hp : pre.length ≤ 4398046511104) : Tms n (pre ++ [r]) (x.set r.toNat (wrap64 (rd x r + 1))) := by
  obtain ⟨hl, hx⟩ := h
  refine ⟨by rw [List.length_set]; exact hl, fun v hv => ?_⟩
  have hrn : ((r.toNat : Nat) : Int) = r := by omega
  have hc : rd x r = ((pre.count r : Nat) : Int) := by
    have := hx r.toNat (by omega)
    rw [hrn] at this
    exact this
  have hle : pre.count r ≤ pre.length := List.count_le_length
  rw [rd_get (by rw [List.length_set]; omega), List.getElem_set, List.count_append]
  by_cases e : r.toNat = v
  · rw [if_pos e, hc, wrapS (by omega) (by omega)]
    have e2 : (v : Int) = r := by omega
    rw [e2, List.count_singleton_self]
    omega
  · rw [if_neg e, ← rd_get (by omega), hx v hv]
    have e2 : ([r] : List Int).count (v : Int) = 0 := List.count_eq_zero.2 (by simp; omega)
    rw [e2]
    omega
def na (l : List S57) : Nat := (l.filter fun n => n.f0 == 1).length
theorem na_snoc (l : List S57) (n : S57) : na (l ++ [n]) = na l + if n.f0 = 1 then 1 else 0 := by
  unfold na
  rw [List.filter_append, List.length_append]
  by_cases h : n.f0 = 1
  · rw [if_pos h]; simp [h]
  · rw [if_neg h]; simp [h]
theorem na_le (l : List S57) : na l ≤ l.length := by unfold na; exact List.length_filter_le _ _
theorem na_wt : ∀ l : List S57, (l.map wt).sum + na l = 2 * l.length
  | [] => rfl
  | n :: l => by
    have ih := na_wt l
    have e : na (n :: l) = (if n.f0 = 1 then 1 else 0) + na l := by
      unfold na
      by_cases h : n.f0 = 1
      · simp [h]; omega
      · simp [h]
    rw [e, List.map_cons, List.sum_cons, List.length_cons]
    unfold wt at ih ⊢
    split <;> omega
theorem once3 (l0 : List S38) (N : List S57) (x : List Int) (x10 : Int) (hx : x.length ≤ 1099511627776) (h1 : ∀ v : Nat, v < x.length → rd x (v : Int) = 1) (hA : wrap64 (x10 + (wrap64 (2 * (wrap64 ((N.length : Int) - x10))))) = (l0.length : Int)) : ∀ (n i : Nat), i + n = x.length → ∃ K, tribunallaw07_SexpOnce.l3 K l0 N x x10 i = some true
  | 0, i, hi => by
    refine ⟨42 + 1, ?_⟩
    rw [tribunallaw07_SexpOnce.l3, if_neg (by omega), if_pos hA, alive_told, Option.bind_some]
  | n + 1, i, hi => by
    obtain ⟨K, hK⟩ := once3 l0 N x x10 hx h1 hA n (i + 1) (by omega)
    have e : wrap64 ((i : Int) + 1) = ((i + 1 : Nat) : Int) := by rw [wrapS (by omega) (by omega)]; omega
    refine ⟨K + 1, ?_⟩
    rw [tribunallaw07_SexpOnce.l3, if_pos (by omega), if_pos (by omega), if_pos (h1 i (by omega)), e]
    exact hK
theorem once2 (l0 : List S38) (N : List S57) (i : Nat) (hi : i < N.length) (x10 : Int) (pre ks : List Int) (hks : (rd_T57 N (i : Int)).f2 = ks) (hkin : ∀ k ∈ ks, 0 ≤ k ∧ k < (i : Int)) (hb : pre.length + ks.length ≤ 1099511627776)
    (hgo : ∀ x, Tms N.length (pre ++ ks) x → ∃ K, tribunallaw07_SexpOnce.l1 K l0 N x x10 ((i + 1 : Nat) : Int) = some true) (hN : N.length ≤ 1099511627776) : ∀ (n j : Nat) (x : List Int), j + n = ks.length → Tms N.length (pre ++ ks.take j) x → ∃ K, tribunallaw07_SexpOnce.l2 K l0 N x x10 i j = some true
  | 0, j, x, hj, hT => by
    rw [List.take_of_length_le (by omega)] at hT
    obtain ⟨K, hK⟩ := hgo x hT
    have e : wrap64 ((i : Int) + 1) = ((i + 1 : Nat) : Int) := by rw [wrapS (by omega) (by omega)]; omega
    refine ⟨K + 1, ?_⟩
    rw [tribunallaw07_SexpOnce.l2, if_pos (by omega), if_pos (by omega), hks, if_neg (by omega), e]
    exact hK
  | n + 1, j, x, hj, hT => by
    have hjl : j < ks.length := by omega
    obtain ⟨k0, k1⟩ := hkin (ks[j]) (List.getElem_mem hjl)
    have hrd := rd_get hjl
    obtain ⟨k, hk⟩ : ∃ k, k = ks[j] := ⟨_, rfl⟩
    rw [← hk] at k0 k1 hrd
    have htk : ks.take j ++ [k] = ks.take (j + 1) := by rw [List.take_add_one, List.getElem?_eq_getElem hjl, ← hk]; rfl
    have hT2 := tms_bump hT k0 (by omega) (by rw [List.length_append, List.length_take]; omega)
    rw [List.append_assoc, htk] at hT2
    obtain ⟨K, hK⟩ := once2 l0 N i hi x10 pre ks hks hkin hb hgo hN n (j + 1) _ (by omega) hT2
    have e : wrap64 ((j : Int) + 1) = ((j + 1 : Nat) : Int) := by rw [wrapS (by omega) (by omega)]; omega
    have hxl := hT.1
    refine ⟨K + 1, ?_⟩
    rw [tribunallaw07_SexpOnce.l2, if_pos (by omega), if_pos (by omega), hks, if_pos (by omega), if_pos (by omega), hrd, if_neg (by omega), if_neg (by omega), if_pos k0, if_pos (by omega), e]
    exact hK
theorem once1 (l0 : List S38) (N : List S57) (R : List Int) (h : PX N R [] [] l0.length) (hN : N.length ≤ 1099511627776) : ∀ (n i : Nat) (x : List Int), i + n = N.length → Tms N.length (R ++ nodeRefs (N.take i)) x → ∃ K, tribunallaw07_SexpOnce.l1 K l0 N x ((na (N.take i) : Nat) : Int) i = some true
  | 0, i, x, hi, hT => by
    rw [List.take_of_length_le (by omega)] at hT ⊢
    have hw := h.wgt
    have hnw := na_wt N
    have hnl := na_le N
    rw [List.length_nil, Nat.add_zero] at hw
    obtain ⟨K, hK⟩ := once3 l0 N x ((na N : Nat) : Int) (by rw [hT.1]; exact hN) (fun v hv => by
      rw [hT.2 v (by rw [← hT.1]; exact hv), List.count_append]
      have := h.cnt (v : Int)
      rw [if_pos (by have := hT.1; omega)] at this
      have e1 : (stkRefs ([] : Stk)).count (v : Int) = 0 := rfl
      rw [e1, List.count_nil] at this
      omega) (by rw [wrapS (a := (N.length : Int) - _) (by omega) (by omega), wrapS (a := 2 * _) (by omega) (by omega), wrapS (by omega) (by omega)]; omega) x.length 0 (by omega)
    refine ⟨K + 1, ?_⟩
    rw [tribunallaw07_SexpOnce.l1, if_neg (by omega)]
    exact hK
  | n + 1, i, x, hi, hT => by
    have hil : i < N.length := by omega
    have hrd := rd57_get hil
    have htk : N.take (i + 1) = N.take i ++ [N[i]] := by rw [List.take_add_one, List.getElem?_eq_getElem hil]; rfl
    obtain ⟨m, hm⟩ : ∃ m, m = N[i] := ⟨_, rfl⟩
    have hkin := h.kin i m (by rw [List.getElem?_eq_getElem hil, hm])
    rw [← hm] at hrd htk
    have hlen := h.len
    have hsum : (nodeRefs (N.take (i + 1))).length ≤ (nodeRefs N).length := by
      have e : nodeRefs N = nodeRefs (N.take (i + 1)) ++ nodeRefs (N.drop (i + 1)) := by
        unfold nodeRefs
        rw [← List.flatMap_append, List.take_append_drop]
      rw [e, List.length_append]; omega
    rw [htk, nodeRefs_snoc, List.length_append] at hsum
    have hgo : ∀ y, Tms N.length ((R ++ nodeRefs (N.take i)) ++ m.f2) y → ∃ K, tribunallaw07_SexpOnce.l1 K l0 N y ((na (N.take (i + 1)) : Nat) : Int) ((i + 1 : Nat) : Int) = some true := by
      intro y hy
      refine once1 l0 N R h hN n (i + 1) y (by omega) ?_
      rw [htk, nodeRefs_snoc, ← List.append_assoc]
      exact hy
    obtain ⟨K, hK⟩ := once2 l0 N i hil ((na (N.take (i + 1)) : Nat) : Int) (R ++ nodeRefs (N.take i)) m.f2 (by rw [hrd]) hkin (by rw [List.length_append]; simp only [List.length_nil] at hlen; omega) hgo hN m.f2.length 0 x (by omega) (by rw [List.take_zero, List.append_nil]; exact hT)
    have hnle := na_le (N.take i)
    rw [List.length_take] at hnle
    refine ⟨K + 1 + 1, ?_⟩
    rw [tribunallaw07_SexpOnce.l1, if_pos (by omega), if_pos (by omega), hrd]
    have hns := na_snoc (N.take i) m
    rw [← htk] at hns
    by_cases hf : m.f0 = 1
    · rw [if_pos hf] at hns
      rw [if_pos hf, wrapS (by omega) (by omega), tribunallaw07_SexpOnce.j2]
      have e : ((na (N.take i) : Nat) : Int) + 1 = ((na (N.take (i + 1)) : Nat) : Int) := by omega
      rw [e]
      exact hK
    · rw [if_neg hf] at hns
      rw [if_neg hf, tribunallaw07_SexpOnce.j2]
      have e : ((na (N.take i) : Nat) : Int) = ((na (N.take (i + 1)) : Nat) : Int) := by omega
      rw [e]
      exact hK
theorem once0 (l0 : List S38) (N : List S57) (R : List Int) (h : PX N R [] [] l0.length) (hN : N.length ≤ 1099511627776) : ∀ (n i : Nat) (x : List Int), i + n = R.length → Tms N.length (R.take i) x → ∃ K, tribunallaw07_SexpOnce.l0 K l0 N R x i = some true
  | 0, i, x, hi, hT => by
    rw [List.take_of_length_le (by omega)] at hT
    obtain ⟨K, hK⟩ := once1 l0 N R h hN N.length 0 x (by omega) (by rw [List.take_zero]; show Tms _ (R ++ []) x; rw [List.append_nil]; exact hT)
    refine ⟨K + 1, ?_⟩
    rw [tribunallaw07_SexpOnce.l0, if_neg (by omega)]
    exact hK
  | n + 1, i, x, hi, hT => by
    have hil : i < R.length := by omega
    obtain ⟨r0, r1⟩ := h.rin (R[i]) (List.getElem_mem hil)
    have hrd := rd_get hil
    have hlen := h.len
    simp only [List.length_nil] at hlen
    obtain ⟨r, hr⟩ : ∃ r, r = R[i] := ⟨_, rfl⟩
    rw [← hr] at r0 r1 hrd
    have htk : R.take i ++ [r] = R.take (i + 1) := by rw [List.take_add_one, List.getElem?_eq_getElem hil, ← hr]; rfl
    have hT2 := tms_bump hT r0 r1 (by rw [List.length_take]; omega)
    rw [htk] at hT2
    obtain ⟨K, hK⟩ := once0 l0 N R h hN n (i + 1) _ (by omega) hT2
    have e : wrap64 ((i : Int) + 1) = ((i + 1 : Nat) : Int) := by rw [wrapS (by omega) (by omega)]; omega
    have hxl := hT.1
    refine ⟨K + 1, ?_⟩
    rw [tribunallaw07_SexpOnce.l0, if_pos (by omega), if_pos (by omega), hrd, if_neg (by omega), if_neg (by omega)]
    by_cases h0 : (i : Int) > 0
    · have e1 : wrap64 ((i : Int) - 1) = ((i - 1 : Nat) : Int) := by rw [wrapS (by omega) (by omega)]; omega
      have hprev : rd R ((i - 1 : Nat) : Int) < r := by
        rw [rd_get (by omega), hr]
        exact List.pairwise_iff_getElem.1 h.inc (i - 1) i (by omega) hil (by omega)
      rw [if_pos h0, e1, if_pos (by omega), if_pos (by omega), if_neg (by omega), if_pos r0, if_pos (by omega), e]
      exact hK
    · rw [if_neg h0, if_pos r0, if_pos (by omega), e]
      exact hK
theorem sexpOnce_pure (l0 : List S38) (hn : l0.length ≤ 1048576) (ht : ∀ t ∈ l0, t.f1.size ≤ 1048576) : ∃ k, tribunallaw07_SexpOnce.f k l0 = some true := by
  have hp : sexp_Parse.f l0 = some (parseR l0) := by
    unfold sexp_Parse.f
    rw [if_pos ⟨by omega, List.all_eq_true.2 fun t h => decide_eq_true (by have := ht t h; omega)⟩]
  obtain ⟨N, R, a, b, e, hR⟩ : ∃ N R a b e, parseR l0 = (N, R, a, b, e) := ⟨_, _, _, _, _, rfl⟩
  have hok := parseR_ok l0
  rw [hR] at hp hok
  rcases hok with ⟨he, hX⟩ | ⟨he, h1, h2⟩
  · have he : e = 0 := he
    have hX : PX N R [] [] l0.length := hX
    have hNl : N.length ≤ 2097152 := by
      have h3 := hX.wgt
      have h4 := na_wt N
      have h5 := na_le N
      rw [List.length_nil] at h3
      omega
    obtain ⟨K, hK⟩ := once0 l0 N R hX (by omega) R.length 0 (List.replicate N.length 0) (by omega) ⟨by simp, fun v hv => by rw [rd_get (by simpa using hv)]; simp⟩
    refine ⟨K, ?_⟩
    unfold tribunallaw07_SexpOnce.f
    rw [hp, Option.bind_some]
    dsimp only
    rw [if_pos he, if_pos (by omega), Int.toNat_natCast, if_pos (by omega)]
    exact hK
  · have he : ¬ e = 0 := he
    have h1 : N = [] := h1
    have h2 : R = [] := h2
    subst h1 h2
    refine ⟨42, ?_⟩
    unfold tribunallaw07_SexpOnce.f
    rw [hp, Option.bind_some]
    dsimp only
    have z1 : (([] : List S57).length : Int) = 0 := rfl
    have z2 : (([] : List Int).length : Int) = 0 := rfl
    rw [if_neg he, if_pos z1, if_pos z2, alive_told, Option.bind_some]
end Go.Proofs.YthklnopfgoekeaaDoor.X
