/- SexpOwn: tokens and nodes are one's own: the pure part. -/
import Derived.Test.YthklnopfgoekeaaGreatDoorPDeep
import Derived.Test.YthklnopfgoekeaaGreatDoorPAlive
import Derived.Test.YthklnopfgoekeaaGreatDoorX30
namespace Go.Proofs.YthklnopfgoekeaaGreatDoor.X
open Go.RowKit Go.Proofs.YthklnopfgoekeaaGreatDoorW.PrintWords Go.Proofs.YthklnopfgoekeaaGreatDoorW.PrintLast Go.Proofs.YthklnopfgoekeaaGreatDoorW.PrintMore
set_option linter.unusedVariables false
theorem wrapO (k : Nat) (h : k ≤ 1099511627776) : wrap64 ((k : Int) + 1) = ((k + 1 : Nat) : Int) := by unfold wrap64; omega
/-- An atom has no kids. -/
def AK (n : S56) : Prop := n.f0 = 1 → n.f2 = []
theorem put_ak {nodes : List S56} {roots : List Int} {stk : Stk} {n : S56} (hn : ∀ n ∈ nodes, AK n) (h : AK n) : ∀ m ∈ (putP nodes roots stk n).1, AK m := by
  have hadd : ∀ m ∈ nodes ++ [n], AK m := fun m hm => by
    rcases List.mem_append.1 hm with hm | hm
    · exact hn m hm
    · rw [List.mem_singleton.1 hm]; exact h
  rcases nil_or_snoc stk with rfl | ⟨init, g, rfl⟩
  · rw [putP_nil]; exact hadd
  · rw [putP_snoc]; exact hadd
theorem go_ak : ∀ (l : List S37) (nodes : List S56) (roots : List Int) (stk : Stk), (∀ n ∈ nodes, AK n) → ∀ n ∈ (parseGo l nodes roots stk).1, AK n
  | [], nodes, roots, stk, hn => by
    rcases nil_or_snoc stk with rfl | ⟨init, g, rfl⟩
    · exact hn
    · rw [parseGo, List.getLast?_concat]
      exact fun n hm => by cases hm
  | t :: ts, nodes, roots, stk, hn => by
    obtain ⟨x, f, hw⟩ : ∃ x f, writeR t.f0 t.f1 t.f2 = (x, f) := ⟨_, _, rfl⟩
    cases hf : (f != 0) with
    | true => rw [parse_bad hw hf]; exact fun n hm => by cases hm
    | false =>
      by_cases h1 : t.f0 = 1
      · by_cases hd : 4096 ≤ stk.length
        · rw [parse_deep hw hf h1 hd]; exact fun n hm => by cases hm
        · rw [parse_push hw hf h1 hd]
          exact go_ak ts _ _ _ hn
      · by_cases h2 : t.f0 = 2
        · rcases nil_or_snoc stk with rfl | ⟨init, g, rfl⟩
          · rw [parse_close0 hw hf h2]; exact fun n hm => by cases hm
          · rw [parse_close (nodes' := (putP nodes roots init ⟨2, g.1, g.2⟩).1) (roots' := (putP nodes roots init ⟨2, g.1, g.2⟩).2.1) (stk' := (putP nodes roots init ⟨2, g.1, g.2⟩).2.2) hw hf h2 rfl]
            exact go_ak ts _ _ _ (put_ak hn (fun h => by cases h))
        · rw [parse_atom (nodes' := (putP nodes roots stk ⟨1, t, []⟩).1) (roots' := (putP nodes roots stk ⟨1, t, []⟩).2.1) (stk' := (putP nodes roots stk ⟨1, t, []⟩).2.2) hw hf h1 h2 rfl]
          exact go_ak ts _ _ _ (put_ak hn (fun _ => rfl))
/-- What the law's second half asks of the nodes. -/
structure ON (N : List S56) : Prop where
  n : N.length ≤ 1099511627776
  k : ∀ i : Nat, i < N.length → (nd N i).f2.length ≤ 1099511627776
  s : ∀ i : Nat, i < N.length → kidsR N (i : Int) = (nd N i).f2
theorem own2 (N : List S56) (i : Nat) (hi : i < N.length) (hN : ON N) (h : ∃ K, tribunallaw07_SexpOwn.l1 K N N ((i + 1 : Nat) : Int) = some true) : ∀ (d j : Nat) (ks : List Int), j + d = ks.length → ks.length = (nd N i).f2.length → ∃ K, tribunallaw07_SexpOwn.l2 K N N (i : Int) ks (j : Int) = some true
  | 0, j, ks, hj, hk => by
    obtain ⟨K, hK⟩ := h
    have h1 := hN.k i hi
    have h2 := hN.n
    have e : ((ks ++ [7]).length : Int) = wrap64 (((rd_T56 N (i : Int)).f2.length : Int) + 1) := by
      rw [rd57_nd, wrapO _ h1, List.length_append, hk]
      rfl
    refine ⟨K + 1, ?_⟩
    rw [tribunallaw07_SexpOwn.l2, if_neg (by omega), if_pos (by omega), if_pos (by omega), if_pos (by omega), if_pos e, wrapO _ (by omega)]
    exact hK
  | d + 1, j, ks, hj, hk => by
    have h1 := hN.k i hi
    obtain ⟨K, hK⟩ := own2 N i hi hN h d (j + 1) (ks.set (j : Int).toNat (-1)) (by rw [List.length_set]; omega) (by rw [List.length_set]; exact hk)
    refine ⟨K + 1, ?_⟩
    rw [tribunallaw07_SexpOwn.l2, if_pos (by omega), if_pos (by omega), wrapO _ (by omega)]
    exact hK
theorem own1 (N : List S56) (hN : ON N) : ∀ (d i : Nat), i + d = N.length → ∃ K, tribunallaw07_SexpOwn.l1 K N N (i : Int) = some true
  | 0, i, hi => by
    refine ⟨42 + 1, ?_⟩
    have hs : tribunalref07_Same.f N N = some true := by unfold tribunalref07_Same.f; rw [if_pos (sameL_self _)]
    rw [tribunallaw07_SexpOwn.l1, if_neg (by omega), hs, Option.bind_some, if_pos rfl, alive_told, Option.bind_some]
  | d + 1, i, hi => by
    obtain ⟨K, hK⟩ := own2 N i (by omega) hN (own1 N hN d (i + 1) (by omega)) (nd N i).f2.length 0 (nd N i).f2 (by omega) rfl
    refine ⟨K + 1, ?_⟩
    have hk : sexp_Kids.f N (i : Int) = some (nd N i).f2 := by
      unfold sexp_Kids.f
      rw [if_pos (by rw [rd57_nd]; exact hN.k i (by omega)), hN.s i (by omega)]
    rw [tribunallaw07_SexpOwn.l1, if_pos (by omega), hk, Option.bind_some]
    exact hK
theorem own0 (l : List S37) (hl : l.length ≤ 1099511627776) (N : List S56) (R : List Int) (e : Int) (hN : ON N) : ∀ (d j : Nat) (cs : List S37), j + d = l.length → cs.length = l.length → (∀ q : Nat, j ≤ q → rd_T37 cs (q : Int) = rd_T37 l (q : Int)) → ∃ K, tribunallaw07_SexpOwn.l0 K l cs N R e N R e (j : Int) = some true
  | 0, j, cs, hj, hc, hq => by
    obtain ⟨K, hK⟩ := own1 N hN N.length 0 (by omega)
    refine ⟨K + 1 + 1, ?_⟩
    have hs : tribunalref07_Same.f N N = some true := by unfold tribunalref07_Same.f; rw [if_pos (sameL_self _)]
    have hi : tribunalref07_SameInts.f R R = some true := by unfold tribunalref07_SameInts.f; rw [if_pos rfl]
    rw [tribunallaw07_SexpOwn.l0, if_neg (by omega), if_pos rfl, hs, Option.bind_some, if_pos rfl, hi, Option.bind_some, tribunallaw07_SexpOwn.j1, if_neg (by decide)]
    exact hK
  | d + 1, j, cs, hj, hc, hq => by
    obtain ⟨K, hK⟩ := own0 l hl N R e hN d (j + 1) (cs.set (j : Int).toNat (⟨0, (⟨#[116, 117, 114, 110, 101, 100]⟩ : ByteArray), false, 0, 0⟩ : S37)) (by omega) (by rw [List.length_set]; exact hc) (fun q hq1 => by
      rw [← hq q (by omega)]
      unfold rd_T37
      rw [List.getD_eq_getElem?_getD, List.getD_eq_getElem?_getD, List.getElem?_set, if_neg (by omega)])
    refine ⟨K + 1, ?_⟩
    rw [tribunallaw07_SexpOwn.l0, if_pos (by omega), if_pos (by omega), if_pos (by omega), hq j (Nat.le_refl _), if_neg (by simp), wrapO _ (by omega)]
    exact hK
/-- SexpOwn answers true, where there are few tokens and short texts. -/
theorem own_told (l : List S37) (hl : l.length ≤ 1048576) (ht : ∀ t ∈ l, t.f1.size ≤ 1048576) : ∃ k, tribunallaw07_SexpOwn.f k l = some true := by
  obtain ⟨⟨N, R, i, j, e⟩, hp⟩ : ∃ x, parseR l = x := ⟨_, rfl⟩
  have hc : l.length ≤ 1099511627776 ∧ l.all (fun t => decide (t.f1.size ≤ 1099511627776)) = true := ⟨by omega, List.all_eq_true.2 fun t h => decide_eq_true (by have := ht t h; omega)⟩
  have hN : ON N := by
    have hN0 : N = (parseR l).1 := by rw [hp]
    rcases parseR_ok l with h1 | h1
    · have hPN := parse_PN (Tk := fun t => t.f1.size ≤ 1099511627776) (l := l) (fun t h => by have := ht t h; omega) h1.1
      obtain ⟨z1, z2, z3⟩ := hPN.size
      have hak := go_ak l [] [] [] (fun n hn => by cases hn)
      change ∀ n ∈ (parseR l).1, AK n at hak
      rw [← hN0] at hPN z1 z3 hak
      refine ⟨by omega, fun i hi => by have := z3 _ (nd_mem hi); omega, fun i hi => ?_⟩
      unfold kidsR
      rw [if_neg (by omega), rd57_nd]
      rcases (hPN.ok _ (nd_mem hi)).kind with hk | hk
      · rw [if_neg (by rw [hk.1]; decide), hak _ (nd_mem hi) hk.1]
      · rw [if_pos hk.1]
    · rw [hN0, h1.2.1]
      exact ⟨Nat.zero_le _, fun i hi => absurd hi (Nat.not_lt_zero _), fun i hi => absurd hi (Nat.not_lt_zero _)⟩
  obtain ⟨K, hK⟩ := own0 l hc.1 N R e hN l.length 0 l (by omega) rfl (fun q _ => rfl)
  refine ⟨K, ?_⟩
  have h1 : sexp_Parse.f l = some (N, R, i, j, e) := by unfold sexp_Parse.f; simp only [if_pos hc, hp]
  have h2 : tribunalref07_Parse.f l = some (N, R, i, j, e) := by unfold tribunalref07_Parse.f; simp only [if_pos hc, hp]
  unfold tribunallaw07_SexpOwn.f
  rw [if_pos (by rw [List.length_nil]; omega), Option.bind_some, List.nil_append, h1, Option.bind_some, h2, Option.bind_some]
  exact hK
end Go.Proofs.YthklnopfgoekeaaGreatDoor.X
