/- What is read: each node stands once, as the kid of one list or as a root; kids stand below their lists; tokens are counted. -/
import Derived.Test.YthklnopfgoekeaaDoorHParse
namespace Go.Proofs.YthklnopfgoekeaaDoor.X
open Go.RowKit Go.Proofs.YthklnopfgoekeaaDoorW.PrintWords Go.Proofs.YthklnopfgoekeaaDoorW.PrintLast Go.Proofs.YthklnopfgoekeaaDoorW.PrintMore
set_option linter.unusedVariables false
/-- What names a node: the roots, the kids of lists, the kids of lists that have not ended, some more. -/
def nodeRefs (nodes : List S57) : List Int := nodes.flatMap (fun n => n.f2)
def stkRefs (stk : Stk) : List Int := stk.flatMap (fun g => g.2)
def wt (n : S57) : Nat := if n.f0 = 1 then 1 else 2
structure PX (nodes : List S57) (roots : List Int) (stk : Stk) (ex : List Int) (m : Nat) : Prop where
  inc : roots.Pairwise (· < ·)
  rin : ∀ r ∈ roots, 0 ≤ r ∧ r < (nodes.length : Int)
  kin : ∀ (i : Nat) (n : S57), nodes[i]? = some n → ∀ k ∈ n.f2, 0 ≤ k ∧ k < (i : Int)
  sin : ∀ g ∈ stk, ∀ k ∈ g.2, 0 ≤ k ∧ k < (nodes.length : Int)
  ein : ∀ k ∈ ex, 0 ≤ k ∧ k < (nodes.length : Int)
  cnt : ∀ v : Int, roots.count v + ((nodeRefs nodes).count v + ((stkRefs stk).count v + ex.count v)) = if 0 ≤ v ∧ v < (nodes.length : Int) then 1 else 0
  len : roots.length + ((nodeRefs nodes).length + ((stkRefs stk).length + ex.length)) = nodes.length
  wgt : (nodes.map wt).sum + stk.length = m
theorem nodeRefs_snoc (nodes : List S57) (n : S57) : nodeRefs (nodes ++ [n]) = nodeRefs nodes ++ n.f2 := by
  unfold nodeRefs; rw [List.flatMap_append]; simp
theorem stkRefs_snoc (stk : Stk) (g : S38 × List Int) : stkRefs (stk ++ [g]) = stkRefs stk ++ g.2 := by
  unfold stkRefs; rw [List.flatMap_append]; simp
theorem kin_snoc {nodes : List S57} {n : S57} (h : ∀ (i : Nat) (m : S57), nodes[i]? = some m → ∀ k ∈ m.f2, 0 ≤ k ∧ k < (i : Int)) (hn : ∀ k ∈ n.f2, 0 ≤ k ∧ k < (nodes.length : Int)) : ∀ (i : Nat) (m : S57), (nodes ++ [n])[i]? = some m → ∀ k ∈ m.f2, 0 ≤ k ∧ k < (i : Int) := by
  intro i m hi k hk
  by_cases hlt : i < nodes.length
  · rw [List.getElem?_append_left hlt] at hi
    exact h i m hi k hk
  · rw [List.getElem?_append_right (by omega)] at hi
    by_cases h0 : i - nodes.length = 0
    · rw [h0] at hi
      have hi : some n = some m := hi
      injection hi with hi
      subst hi
      have := hn k hk
      omega
    · rw [List.getElem?_eq_none (by simp; omega)] at hi
      cases hi
theorem put_ok {nodes nodes' : List S57} {roots roots' : List Int} {stk stk' : Stk} {n : S57} {m : Nat} (h : PX nodes roots stk n.f2 m) (hp : putP nodes roots stk n = (nodes', roots', stk')) : PX nodes' roots' stk' [] (m + wt n) := by
  have hmono : ∀ k : Int, (0 ≤ k ∧ k < (nodes.length : Int)) → 0 ≤ k ∧ k < ((nodes ++ [n]).length : Int) := by
    intro k hk
    rw [List.length_append, List.length_singleton]
    omega
  have hone : ∀ v : Int, [((nodes.length : Nat) : Int)].count v = if v = (nodes.length : Int) then 1 else 0 := by
    intro v
    by_cases hv : v = (nodes.length : Int)
    · rw [if_pos hv, hv]; simp
    · rw [if_neg hv]; exact List.count_eq_zero.2 (by simpa using hv)
  have hL : (((nodes ++ [n]).length : Nat) : Int) = (nodes.length : Int) + 1 := by simp
  have hlast : 0 ≤ (nodes.length : Int) ∧ (nodes.length : Int) < ((nodes ++ [n]).length : Int) := by rw [hL]; omega
  have hw : ((nodes ++ [n]).map wt).sum = (nodes.map wt).sum + wt n := by simp
  rcases nil_or_snoc stk with rfl | ⟨init, g, rfl⟩
  · rw [putP_nil] at hp
    injection hp with h1 hp
    injection hp with h2 h3
    subst h1 h2 h3
    refine ⟨?_, ?_, kin_snoc h.kin h.ein, (fun g hg => by cases hg), (fun k hk => by cases hk), ?_, ?_, ?_⟩
    · refine List.pairwise_append.2 ⟨h.inc, List.pairwise_singleton _ _, fun a ha b hb => ?_⟩
      rw [List.mem_singleton.1 hb]
      exact (h.rin a ha).2
    · intro r hr
      rcases List.mem_append.1 hr with hr | hr
      · exact hmono r (h.rin r hr)
      · rw [List.mem_singleton.1 hr]; exact hlast
    · intro v
      have hc := h.cnt v
      rw [nodeRefs_snoc, List.count_append, List.count_append, hone v, hL]
      have hs : (stkRefs ([] : Stk)).count v = 0 := rfl
      rw [hs] at hc ⊢
      rw [List.count_nil]
      split at hc <;> split <;> split <;> omega
    · have hl := h.len
      rw [nodeRefs_snoc, List.length_append, List.length_append, List.length_append]
      have hs : (stkRefs ([] : Stk)).length = 0 := rfl
      rw [hs] at hl ⊢
      simp only [List.length_singleton, List.length_nil]
      omega
    · have := h.wgt
      rw [hw]
      simp only [List.length_nil] at this ⊢
      omega
  · rw [putP_snoc] at hp
    injection hp with h1 hp
    injection hp with h2 h3
    subst h1 h2 h3
    refine ⟨h.inc, fun r hr => hmono r (h.rin r hr), kin_snoc h.kin h.ein, ?_, (fun k hk => by cases hk), ?_, ?_, ?_⟩
    · intro a ha k hk
      rcases List.mem_append.1 ha with ha | ha
      · exact hmono k (h.sin a (List.mem_append_left _ ha) k hk)
      · rw [List.mem_singleton.1 ha] at hk
        rcases List.mem_append.1 hk with hk | hk
        · exact hmono k (h.sin g (by simp) k hk)
        · rw [List.mem_singleton.1 hk]; exact hlast
    · intro v
      have hc := h.cnt v
      rw [stkRefs_snoc, List.count_append] at hc
      rw [nodeRefs_snoc, stkRefs_snoc, List.count_append, List.count_append, List.count_append, hone v, hL, List.count_nil]
      split at hc <;> split <;> split <;> omega
    · have hl := h.len
      rw [stkRefs_snoc, List.length_append] at hl
      rw [nodeRefs_snoc, stkRefs_snoc, List.length_append, List.length_append, List.length_append, List.length_append]
      simp only [List.length_singleton, List.length_nil]
      omega
    · have := h.wgt
      rw [hw]
      simp only [List.length_append, List.length_singleton] at this ⊢
      omega
/-- What is read, or nothing and a fault. -/
theorem parse_ok : ∀ (l : List S38) (nodes : List S57) (roots : List Int) (stk : Stk) (m : Nat), PX nodes roots stk [] m → (((parseGo l nodes roots stk).2.2.2.2 = 0 ∧ PX (parseGo l nodes roots stk).1 (parseGo l nodes roots stk).2.1 [] [] (m + l.length)) ∨ ((parseGo l nodes roots stk).2.2.2.2 ≠ 0 ∧ (parseGo l nodes roots stk).1 = [] ∧ (parseGo l nodes roots stk).2.1 = []))
  | [], nodes, roots, stk, m, h => by
    rcases nil_or_snoc stk with rfl | ⟨init, g, rfl⟩
    · exact .inl ⟨rfl, h⟩
    · right
      rw [parseGo, List.getLast?_concat]
      exact ⟨(by decide : (71 : Int) ≠ 0), rfl, rfl⟩
  | t :: ts, nodes, roots, stk, m, h => by
    obtain ⟨x, f, hw⟩ : ∃ x f, writeR t.f0 t.f1 t.f2 = (x, f) := ⟨_, _, rfl⟩
    cases hf : (f != 0) with
    | true =>
      rw [parse_bad hw hf]
      exact .inr ⟨(by decide : (73 : Int) ≠ 0), rfl, rfl⟩
    | false =>
      have hlen : ∀ w : Nat, m + 1 + ts.length = m + (t :: ts).length := fun _ => by rw [List.length_cons]; omega
      by_cases h1 : t.f0 = 1
      · by_cases hd : 4096 ≤ stk.length
        · rw [parse_deep hw hf h1 hd]
          exact .inr ⟨(by decide : (72 : Int) ≠ 0), rfl, rfl⟩
        · rw [parse_push hw hf h1 hd, ← hlen 0]
          refine parse_ok ts nodes roots (stk ++ [(t, [])]) (m + 1) ⟨h.inc, h.rin, h.kin, ?_, h.ein, ?_, ?_, ?_⟩
          · intro a ha k hk
            rcases List.mem_append.1 ha with ha | ha
            · exact h.sin a ha k hk
            · rw [List.mem_singleton.1 ha] at hk; cases hk
          · intro v; rw [stkRefs_snoc, List.append_nil]; exact h.cnt v
          · rw [stkRefs_snoc, List.append_nil]; exact h.len
          · have := h.wgt; rw [List.length_append, List.length_singleton]; omega
      · by_cases h2 : t.f0 = 2
        · rcases nil_or_snoc stk with rfl | ⟨init, g, rfl⟩
          · rw [parse_close0 hw hf h2]
            exact .inr ⟨(by decide : (70 : Int) ≠ 0), rfl, rfl⟩
          · obtain ⟨nodes', roots', stk', hp⟩ : ∃ a b c, putP nodes roots init ⟨2, g.1, g.2⟩ = (a, b, c) := ⟨_, _, _, rfl⟩
            rw [parse_close hw hf h2 hp, ← hlen 0]
            have hm : 1 ≤ m := by have := h.wgt; rw [List.length_append, List.length_singleton] at this; omega
            have hX : PX nodes roots init (⟨2, g.1, g.2⟩ : S57).f2 (m - 1) := by
              refine ⟨h.inc, h.rin, h.kin, fun a ha => h.sin a (List.mem_append_left _ ha), h.sin g (by simp), ?_, ?_, ?_⟩
              · intro v
                have := h.cnt v
                rw [stkRefs_snoc, List.count_append, List.count_nil] at this
                show _ + (_ + (_ + List.count v g.2)) = _
                omega
              · have := h.len
                rw [stkRefs_snoc, List.length_append, List.length_nil] at this
                show _ + (_ + (_ + g.2.length)) = _
                omega
              · have := h.wgt; rw [List.length_append, List.length_singleton] at this; omega
            have h3 := put_ok hX hp
            have e : m - 1 + wt ⟨2, g.1, g.2⟩ = m + 1 := by
              show m - 1 + (if (2 : Int) = 1 then 1 else 2) = _
              rw [if_neg (by decide)]; omega
            rw [e] at h3
            exact parse_ok ts nodes' roots' stk' (m + 1) h3
        · obtain ⟨nodes', roots', stk', hp⟩ : ∃ a b c, putP nodes roots stk ⟨1, t, []⟩ = (a, b, c) := ⟨_, _, _, rfl⟩
          rw [parse_atom hw hf h1 h2 hp, ← hlen 0]
          exact parse_ok ts nodes' roots' stk' (m + 1) (put_ok (n := ⟨1, t, []⟩) h hp)
theorem parseR_ok (l : List S38) : ((parseR l).2.2.2.2 = 0 ∧ PX (parseR l).1 (parseR l).2.1 [] [] l.length) ∨ ((parseR l).2.2.2.2 ≠ 0 ∧ (parseR l).1 = [] ∧ (parseR l).2.1 = []) := by
  have h0 : PX [] [] [] [] 0 := ⟨List.Pairwise.nil, (fun r hr => by cases hr), (fun i n hi => by simp at hi), (fun g hg => by cases hg), (fun k hk => by cases hk), (fun v => by
    show 0 = _
    rw [if_neg]
    intro h
    have h1 := h.1
    have h2 : v < ((0 : Nat) : Int) := h.2
    omega), rfl, rfl⟩
  have := parse_ok l [] [] [] 0 h0
  rw [Nat.zero_add] at this
  exact this
end Go.Proofs.YthklnopfgoekeaaDoor.X
