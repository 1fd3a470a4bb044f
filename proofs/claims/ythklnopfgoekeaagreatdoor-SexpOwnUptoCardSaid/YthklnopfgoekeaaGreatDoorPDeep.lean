/- What is read: each node stands once, as the kid of one list or as a root; kids stand below their lists; tokens are counted. What is read are sound nodes of moderate size. What Depth of sexp answers at each table of nodes of moderate size, in plain words. SexpDeep, the plain law: k parentheses about one symbol: what is read, or the one that is too deep. -/
import Derived.Test.YthklnopfgoekeaaGreatDoorHParse
import Derived.Test.YthklnopfgoekeaaGreatDoorPText
namespace Go.Proofs.YthklnopfgoekeaaGreatDoor.X
section
open Go.RowKit Go.Proofs.YthklnopfgoekeaaGreatDoorW.PrintWords Go.Proofs.YthklnopfgoekeaaGreatDoorW.PrintLast Go.Proofs.YthklnopfgoekeaaGreatDoorW.PrintMore
set_option linter.unusedVariables false
/-- What names a node: the roots, the kids of lists, the kids of lists that have not ended, some more. -/
def nodeRefs (nodes : List S56) : List Int := nodes.flatMap (fun n => n.f2)
def stkRefs (stk : Stk) : List Int := stk.flatMap (fun g => g.2)
def wt (n : S56) : Nat := if n.f0 = 1 then 1 else 2
structure PX (nodes : List S56) (roots : List Int) (stk : Stk) (ex : List Int) (m : Nat) : Prop where
  inc : roots.Pairwise (· < ·)
  rin : ∀ r ∈ roots, 0 ≤ r ∧ r < (nodes.length : Int)
  kin : ∀ (i : Nat) (n : S56), nodes[i]? = some n → ∀ k ∈ n.f2, 0 ≤ k ∧ k < (i : Int)
  sin : ∀ g ∈ stk, ∀ k ∈ g.2, 0 ≤ k ∧ k < (nodes.length : Int)
  ein : ∀ k ∈ ex, 0 ≤ k ∧ k < (nodes.length : Int)
  cnt : ∀ v : Int, roots.count v + ((nodeRefs nodes).count v + ((stkRefs stk).count v + ex.count v)) = if 0 ≤ v ∧ v < (nodes.length : Int) then 1 else 0
  len : roots.length + ((nodeRefs nodes).length + ((stkRefs stk).length + ex.length)) = nodes.length
  wgt : (nodes.map wt).sum + stk.length = m
theorem nodeRefs_snoc (nodes : List S56) (n : S56) : nodeRefs (nodes ++ [n]) = nodeRefs nodes ++ n.f2 := by
  unfold nodeRefs; rw [List.flatMap_append]; simp
theorem stkRefs_snoc (stk : Stk) (g : S37 × List Int) : stkRefs (stk ++ [g]) = stkRefs stk ++ g.2 := by
  unfold stkRefs; rw [List.flatMap_append]; simp
theorem kin_snoc {nodes : List S56} {n : S56} (h : ∀ (i : Nat) (m : S56), nodes[i]? = some m → ∀ k ∈ m.f2, 0 ≤ k ∧ k < (i : Int)) (hn : ∀ k ∈ n.f2, 0 ≤ k ∧ k < (nodes.length : Int)) : ∀ (i : Nat) (m : S56), (nodes ++ [n])[i]? = some m → ∀ k ∈ m.f2, 0 ≤ k ∧ k < (i : Int) := by
  intro i m hi k hk
  by_cases hlt : i < nodes.length
  · rw [List.getElem?_append_left hlt] at hi
    exact h i m hi k hk
  · rw [List.getElem?_append_right (by omega)] at hi
    by_cases h0 : i - nodes.length = 0
    · rw [h0] at hi
      have hi : some n = some m := hi
      injection hi with hi
      subst hi
      have := hn k hk
      omega
    · rw [List.getElem?_eq_none (by simp; omega)] at hi
      cases hi
theorem put_ok {nodes nodes' : List S56} {roots roots' : List Int} {stk stk' : Stk} {n : S56} {m : Nat} (h : PX nodes roots stk n.f2 m) (hp : putP nodes roots stk n = (nodes', roots', stk')) : PX nodes' roots' stk' [] (m + wt n) := by
  have hmono : ∀ k : Int, (0 ≤ k ∧ k < (nodes.length : Int)) → 0 ≤ k ∧ k < ((nodes ++ [n]).length : Int) := by
    intro k hk
    rw [List.length_append, List.length_singleton]
    omega
  have hone : ∀ v : Int, [((nodes.length : Nat) : Int)].count v = if v = (nodes.length : Int) then 1 else 0 := by
    intro v
    by_cases hv : v = (nodes.length : Int)
    · rw [if_pos hv, hv]; simp
    · rw [if_neg hv]; exact List.count_eq_zero.2 (by simpa using hv)
  have hL : (((nodes ++ [n]).length : Nat) : Int) = (nodes.length : Int) + 1 := by simp
  have hlast : 0 ≤ (nodes.length : Int) ∧ (nodes.length : Int) < ((nodes ++ [n]).length : Int) := by rw [hL]; omega
  have hw : ((nodes ++ [n]).map wt).sum = (nodes.map wt).sum + wt n := by simp
  rcases nil_or_snoc stk with rfl | ⟨init, g, rfl⟩
  · rw [putP_nil] at hp
    injection hp with h1 hp
    injection hp with h2 h3
    subst h1 h2 h3
    refine ⟨?_, ?_, kin_snoc h.kin h.ein, (fun g hg => by cases hg), (fun k hk => by cases hk), ?_, ?_, ?_⟩
    · refine List.pairwise_append.2 ⟨h.inc, List.pairwise_singleton _ _, fun a ha b hb => ?_⟩
      rw [List.mem_singleton.1 hb]
      exact (h.rin a ha).2
    · intro r hr
      rcases List.mem_append.1 hr with hr | hr
      · exact hmono r (h.rin r hr)
      · rw [List.mem_singleton.1 hr]; exact hlast
    · intro v
      have hc := h.cnt v
      rw [nodeRefs_snoc, List.count_append, List.count_append, hone v, hL]
      have hs : (stkRefs ([] : Stk)).count v = 0 := rfl
      rw [hs] at hc ⊢
      rw [List.count_nil]
      split at hc <;> split <;> split <;> omega
    · have hl := h.len
      rw [nodeRefs_snoc, List.length_append, List.length_append, List.length_append]
      have hs : (stkRefs ([] : Stk)).length = 0 := rfl
      rw [hs] at hl ⊢
      simp only [List.length_singleton, List.length_nil]
      omega
    · have := h.wgt
      rw [hw]
      simp only [List.length_nil] at this ⊢
      omega
  · rw [putP_snoc] at hp
    injection hp with h1 hp
    injection hp with h2 h3
    subst h1 h2 h3
    refine ⟨h.inc, fun r hr => hmono r (h.rin r hr), kin_snoc h.kin h.ein, ?_, (fun k hk => by cases hk), ?_, ?_, ?_⟩
    · intro a ha k hk
      rcases List.mem_append.1 ha with ha | ha
      · exact hmono k (h.sin a (List.mem_append_left _ ha) k hk)
      · rw [List.mem_singleton.1 ha] at hk
        rcases List.mem_append.1 hk with hk | hk
        · exact hmono k (h.sin g (by simp) k hk)
        · rw [List.mem_singleton.1 hk]; exact hlast
    · intro v
      have hc := h.cnt v
      rw [stkRefs_snoc, List.count_append] at hc
      rw [nodeRefs_snoc, stkRefs_snoc, List.count_append, List.count_append, List.count_append, hone v, hL, List.count_nil]
      split at hc <;> split <;> split <;> omega
    · have hl := h.len
      rw [stkRefs_snoc, List.length_append] at hl
      rw [nodeRefs_snoc, stkRefs_snoc, List.length_append, List.length_append, List.length_append, List.length_append]
      simp only [List.length_singleton, List.length_nil]
      omega
    · have := h.wgt
      rw [hw]
      simp only [List.length_append, List.length_singleton] at this ⊢
      omega
/-- What is read, or nothing and a fault. -/
theorem parse_ok : ∀ (l : List S37) (nodes : List S56) (roots : List Int) (stk : Stk) (m : Nat), PX nodes roots stk [] m → (((parseGo l nodes roots stk).2.2.2.2 = 0 ∧ PX (parseGo l nodes roots stk).1 (parseGo l nodes roots stk).2.1 [] [] (m + l.length)) ∨ ((parseGo l nodes roots stk).2.2.2.2 ≠ 0 ∧ (parseGo l nodes roots stk).1 = [] ∧ (parseGo l nodes roots stk).2.1 = []))
  | [], nodes, roots, stk, m, h => by
    rcases nil_or_snoc stk with rfl | ⟨init, g, rfl⟩
    · exact .inl ⟨rfl, h⟩
    · right
      rw [parseGo, List.getLast?_concat]
      exact ⟨(by decide : (71 : Int) ≠ 0), rfl, rfl⟩
  | t :: ts, nodes, roots, stk, m, h => by
    obtain ⟨x, f, hw⟩ : ∃ x f, writeR t.f0 t.f1 t.f2 = (x, f) := ⟨_, _, rfl⟩
    cases hf : (f != 0) with
    | true =>
      rw [parse_bad hw hf]
      exact .inr ⟨(by decide : (73 : Int) ≠ 0), rfl, rfl⟩
    | false =>
      have hlen : ∀ w : Nat, m + 1 + ts.length = m + (t :: ts).length := fun _ => by rw [List.length_cons]; omega
      by_cases h1 : t.f0 = 1
      · by_cases hd : 4096 ≤ stk.length
        · rw [parse_deep hw hf h1 hd]
          exact .inr ⟨(by decide : (72 : Int) ≠ 0), rfl, rfl⟩
        · rw [parse_push hw hf h1 hd, ← hlen 0]
          refine parse_ok ts nodes roots (stk ++ [(t, [])]) (m + 1) ⟨h.inc, h.rin, h.kin, ?_, h.ein, ?_, ?_, ?_⟩
          · intro a ha k hk
            rcases List.mem_append.1 ha with ha | ha
            · exact h.sin a ha k hk
            · rw [List.mem_singleton.1 ha] at hk; cases hk
          · intro v; rw [stkRefs_snoc, List.append_nil]; exact h.cnt v
          · rw [stkRefs_snoc, List.append_nil]; exact h.len
          · have := h.wgt; rw [List.length_append, List.length_singleton]; omega
      · by_cases h2 : t.f0 = 2
        · rcases nil_or_snoc stk with rfl | ⟨init, g, rfl⟩
          · rw [parse_close0 hw hf h2]
            exact .inr ⟨(by decide : (70 : Int) ≠ 0), rfl, rfl⟩
          · obtain ⟨nodes', roots', stk', hp⟩ : ∃ a b c, putP nodes roots init ⟨2, g.1, g.2⟩ = (a, b, c) := ⟨_, _, _, rfl⟩
            rw [parse_close hw hf h2 hp, ← hlen 0]
            have hm : 1 ≤ m := by have := h.wgt; rw [List.length_append, List.length_singleton] at this; omega
            have hX : PX nodes roots init (⟨2, g.1, g.2⟩ : S56).f2 (m - 1) := by
              refine ⟨h.inc, h.rin, h.kin, fun a ha => h.sin a (List.mem_append_left _ ha), h.sin g (by simp), ?_, ?_, ?_⟩
              · intro v
                have := h.cnt v
                rw [stkRefs_snoc, List.count_append, List.count_nil] at this
                show _ + (_ + (_ + List.count v g.2)) = _
                omega
              · have := h.len
                rw [stkRefs_snoc, List.length_append, List.length_nil] at this
                show _ + (_ + (_ + g.2.length)) = _
                omega
              · have := h.wgt; rw [List.length_append, List.length_singleton] at this; omega
            have h3 := put_ok hX hp
            have e : m - 1 + wt ⟨2, g.1, g.2⟩ = m + 1 := by
              show m - 1 + (if (2 : Int) = 1 then 1 else 2) = _
              rw [if_neg (by decide)]; omega
            rw [e] at h3
            exact parse_ok ts nodes' roots' stk' (m + 1) h3
        · obtain ⟨nodes', roots', stk', hp⟩ : ∃ a b c, putP nodes roots stk ⟨1, t, []⟩ = (a, b, c) := ⟨_, _, _, rfl⟩
          rw [parse_atom hw hf h1 h2 hp, ← hlen 0]
          exact parse_ok ts nodes' roots' stk' (m + 1) (put_ok (n := ⟨1, t, []⟩) h hp)
theorem parseR_ok (l : List S37) : ((parseR l).2.2.2.2 = 0 ∧ PX (parseR l).1 (parseR l).2.1 [] [] l.length) ∨ ((parseR l).2.2.2.2 ≠ 0 ∧ (parseR l).1 = [] ∧ (parseR l).2.1 = []) := by
  have h0 : PX [] [] [] [] 0 := ⟨List.Pairwise.nil, (fun r hr => by cases hr), (fun i n hi => by simp at hi), (fun g hg => by cases hg), (fun k hk => by cases hk), (fun v => by
    show 0 = _
    rw [if_neg]
    intro h
    have h1 := h.1
    have h2 : v < ((0 : Nat) : Int) := h.2
    omega), rfl, rfl⟩
  have := parse_ok l [] [] [] 0 h0
  rw [Nat.zero_add] at this
  exact this
end
section
open Go.RowKit Go.Proofs.YthklnopfgoekeaaGreatDoorW.PrintWords Go.Proofs.YthklnopfgoekeaaGreatDoorW.PrintLast Go.Proofs.YthklnopfgoekeaaGreatDoorW.PrintMore
set_option linter.unusedVariables false
structure NOk (Tk : S37 → Prop) (n : S56) : Prop where
  tok : Tk n.f1
  wr : (writeR n.f1.f0 n.f1.f1 n.f1.f2).2 = 0
  kind : (n.f0 = 1 ∧ n.f1.f0 ≠ 1 ∧ n.f1.f0 ≠ 2) ∨ (n.f0 = 2 ∧ n.f1.f0 = 1)
def GOk (Tk : S37 → Prop) (g : S37 × List Int) : Prop := Tk g.1 ∧ (writeR g.1.f0 g.1.f1 g.1.f2).2 = 0 ∧ g.1.f0 = 1
theorem put_nodes {Tk : S37 → Prop} {nodes : List S56} {roots : List Int} {stk : Stk} {n : S56} (hn : ∀ n ∈ nodes, NOk Tk n) (hs : ∀ g ∈ stk, GOk Tk g) (h : NOk Tk n) : (∀ m ∈ (putP nodes roots stk n).1, NOk Tk m) ∧ (∀ g ∈ (putP nodes roots stk n).2.2, GOk Tk g) := by
  have hadd : ∀ m ∈ nodes ++ [n], NOk Tk m := fun m hm => by
    rcases List.mem_append.1 hm with hm | hm
    · exact hn m hm
    · rw [List.mem_singleton.1 hm]; exact h
  rcases nil_or_snoc stk with rfl | ⟨init, g, rfl⟩
  · rw [putP_nil]
    exact ⟨hadd, fun g hg => by cases hg⟩
  · rw [putP_snoc]
    refine ⟨hadd, fun g' hg => ?_⟩
    rcases List.mem_append.1 hg with hg | hg
    · exact hs g' (List.mem_append_left _ hg)
    · rw [List.mem_singleton.1 hg]
      exact hs g (by simp)
theorem go_nodes (Tk : S37 → Prop) : ∀ (l : List S37) (nodes : List S56) (roots : List Int) (stk : Stk), (∀ t ∈ l, Tk t) → (∀ n ∈ nodes, NOk Tk n) → (∀ g ∈ stk, GOk Tk g) → ∀ n ∈ (parseGo l nodes roots stk).1, NOk Tk n
  | [], nodes, roots, stk, hl, hn, hs => by
    rcases nil_or_snoc stk with rfl | ⟨init, g, rfl⟩
    · exact hn
    · rw [parseGo, List.getLast?_concat]
      exact fun n hm => by cases hm
  | t :: ts, nodes, roots, stk, hl, hn, hs => by
    have ht := hl t (List.mem_cons_self ..)
    have hts : ∀ t ∈ ts, Tk t := fun t h => hl t (List.mem_cons_of_mem _ h)
    obtain ⟨x, f, hw⟩ : ∃ x f, writeR t.f0 t.f1 t.f2 = (x, f) := ⟨_, _, rfl⟩
    cases hf : (f != 0) with
    | true => rw [parse_bad hw hf]; exact fun n hm => by cases hm
    | false =>
      have hwr : (writeR t.f0 t.f1 t.f2).2 = 0 := by rw [hw]; simpa using hf
      by_cases h1 : t.f0 = 1
      · by_cases hd : 4096 ≤ stk.length
        · rw [parse_deep hw hf h1 hd]; exact fun n hm => by cases hm
        · rw [parse_push hw hf h1 hd]
          refine go_nodes Tk ts _ _ _ hts hn (fun g hg => ?_)
          rcases List.mem_append.1 hg with hg | hg
          · exact hs g hg
          · rw [List.mem_singleton.1 hg]; exact ⟨ht, hwr, h1⟩
      · by_cases h2 : t.f0 = 2
        · rcases nil_or_snoc stk with rfl | ⟨init, g, rfl⟩
          · rw [parse_close0 hw hf h2]; exact fun n hm => by cases hm
          · have hg := hs g (by simp)
            rw [parse_close (nodes' := (putP nodes roots init ⟨2, g.1, g.2⟩).1) (roots' := (putP nodes roots init ⟨2, g.1, g.2⟩).2.1) (stk' := (putP nodes roots init ⟨2, g.1, g.2⟩).2.2) hw hf h2 rfl]
            obtain ⟨p1, p2⟩ := put_nodes (roots := roots) (stk := init) hn (fun g hg => hs g (List.mem_append_left _ hg)) (⟨hg.1, hg.2.1, .inr ⟨rfl, hg.2.2⟩⟩ : NOk Tk ⟨2, g.1, g.2⟩)
            exact go_nodes Tk ts _ _ _ hts p1 p2
        · rw [parse_atom (nodes' := (putP nodes roots stk ⟨1, t, []⟩).1) (roots' := (putP nodes roots stk ⟨1, t, []⟩).2.1) (stk' := (putP nodes roots stk ⟨1, t, []⟩).2.2) hw hf h1 h2 rfl]
          obtain ⟨p1, p2⟩ := put_nodes (roots := roots) hn hs (⟨ht, hwr, .inl ⟨rfl, h1, h2⟩⟩ : NOk Tk ⟨1, t, []⟩)
          exact go_nodes Tk ts _ _ _ hts p1 p2
/-- What an accepted reading is. -/
structure PN (Tk : S37 → Prop) (nodes : List S56) (roots : List Int) (m : Nat) : Prop where
  ok : ∀ n ∈ nodes, NOk Tk n
  px : PX nodes roots [] [] m
theorem parse_PN {Tk : S37 → Prop} {l : List S37} (hl : ∀ t ∈ l, Tk t) (h : (parseR l).2.2.2.2 = 0) : PN Tk (parseR l).1 (parseR l).2.1 l.length := by
  refine ⟨go_nodes Tk l [] [] [] hl (fun n hn => by cases hn) (fun g hg => by cases hg), ?_⟩
  rcases parseR_ok l with h1 | h1
  · exact h1.2
  · exact absurd h h1.1
theorem wt_sum' : ∀ nodes : List S56, nodes.length ≤ (nodes.map wt).sum
  | [] => Nat.le_refl _
  | n :: l => by
    have := wt_sum' l
    have h1 : 1 ≤ wt n := by unfold wt; split <;> omega
    rw [List.map_cons, List.sum_cons, List.length_cons]
    omega
theorem kids_refs : ∀ (nodes : List S56) (n : S56), n ∈ nodes → n.f2.length ≤ (nodeRefs nodes).length
  | [], n, h => by cases h
  | m :: l, n, h => by
    rw [nodeRefs, List.flatMap_cons, List.length_append]
    rcases List.mem_cons.1 h with rfl | h
    · omega
    · have := kids_refs l n h
      rw [nodeRefs] at this
      omega
theorem PN.size {Tk : S37 → Prop} {nodes : List S56} {roots : List Int} {m : Nat} (h : PN Tk nodes roots m) : nodes.length ≤ m ∧ roots.length ≤ m ∧ ∀ n ∈ nodes, n.f2.length ≤ m := by
  have h1 := h.px.wgt
  have h2 := wt_sum' nodes
  have h3 := h.px.len
  have h4 : ([] : Stk).length = 0 := rfl
  refine ⟨by omega, by omega, fun n hn => ?_⟩
  have := kids_refs nodes n hn
  omega
theorem nd_mem {nodes : List S56} {i : Nat} (h : i < nodes.length) : nd nodes i ∈ nodes := by
  rw [nd, List.getD_eq_getElem?_getD, List.getElem?_eq_getElem h]
  exact List.getElem_mem h
theorem nd_at {nodes : List S56} {i : Nat} (h : i < nodes.length) : nodes[i]? = some (nd nodes i) := by
  rw [nd, List.getD_eq_getElem?_getD, List.getElem?_eq_getElem h]
  rfl
theorem nd_out {nodes : List S56} {i : Nat} (h : nodes.length ≤ i) : nd nodes i = z56 := by
  rw [nd, List.getD_eq_getElem?_getD, List.getElem?_eq_none h]
  rfl
theorem PN.mod {nodes : List S56} {roots : List Int} {m : Nat} (h : PN (fun t => t.f1.size ≤ 1099511627776) nodes roots m) (hm : m ≤ 1099511627776) : Mod nodes := by
  obtain ⟨h1, h2, h3⟩ := h.size
  refine ⟨by omega, fun i => ?_, fun i => ?_⟩
  · rcases Nat.lt_or_ge i nodes.length with hlt | hge
    · exact (h.ok _ (nd_mem hlt)).tok
    · rw [nd_out hge]
      decide
  · rcases Nat.lt_or_ge i nodes.length with hlt | hge
    · have := h3 _ (nd_mem hlt)
      omega
    · rw [nd_out hge]
      decide
theorem PN.okN {Tk : S37 → Prop} {nodes : List S56} {roots : List Int} {m : Nat} (h : PN Tk nodes roots m) {i : Nat} (hi : i < nodes.length) : okN i (nd nodes i) = true := by
  have hn := h.ok _ (nd_mem hi)
  unfold X.okN
  rcases hn.kind with ⟨h1, h2, h3⟩ | ⟨h1, h2⟩
  · rw [if_pos h1, okT, beq_iff_eq.2 hn.wr, beq_eq_false_iff_ne.2 h2, beq_eq_false_iff_ne.2 h3]
    rfl
  · rw [if_neg (by omega), beq_iff_eq.2 h1, Bool.true_and, List.all_eq_true]
    intro k hk
    have := h.px.kin i _ (nd_at hi) k hk
    rw [okK, decide_eq_true this.1, decide_eq_true this.2]
    rfl
theorem sndGo_all (l : List S56) : ∀ (i : Nat) (m : List Bool), (∀ j, j < i → okN j (nd l j) = true) → ∃ m', sndGo l i m = some m'
  | 0, m, _ => ⟨m, rfl⟩
  | i + 1, m, h => by
    rw [sndGo]
    split
    · rw [if_pos (h i (by omega))]
      exact sndGo_all l i _ (fun j hj => h j (by omega))
    · exact sndGo_all l i _ (fun j hj => h j (by omega))
theorem ask_all {l : List S56} {i : Nat} (hi : i < l.length) (h : ∀ j, j < l.length → okN j (nd l j) = true) : (askR l (i : Int)).2 = 0 := by
  unfold askR
  rw [if_neg (by omega), Int.toNat_natCast]
  obtain ⟨m, hm⟩ := sndGo_all l (i + 1) (met0 i) (fun j hj => h j (by omega))
  rw [hm]
/-- Where all nodes are sound: every node is in the set of all. -/
theorem clo_all {l : List S56} (h : ∀ j, j < l.length → okN j (nd l j) = true) : Clo l (List.replicate l.length true) l.length := by
  have hg : ∀ i, i < l.length → (List.replicate l.length true).getD i false = true := fun i hi => by
    rw [List.getD_eq_getElem?_getD, List.getElem?_replicate, if_pos hi]
    rfl
  refine ⟨fun i hi _ => h i hi, fun i hi _ hne k hk => ?_⟩
  have := (ok_kids (h i hi) hne).2 k hk
  exact hg _ (by omega)
theorem all_get {l : List S56} {i : Nat} (hi : i < l.length) : (List.replicate l.length true).getD i false = true := by
  rw [List.getD_eq_getElem?_getD, List.getElem?_replicate, if_pos hi]
  rfl
end
section
section
open Go.RowKit Go.Proofs.YthklnopfgoekeaaGreatDoorW.PrintWords Go.Proofs.YthklnopfgoekeaaGreatDoorW.PrintLast Go.Proofs.YthklnopfgoekeaaGreatDoorW.PrintMore
set_option linter.unusedVariables false
set_option linter.unusedSimpArgs false
/-- The greatest of the kids' depths. -/
def dmx (f : Int → Nat) : List Int → Nat
  | [] => 0
  | k :: ks => max (f k) (dmx f ks)
def dpL (l : List S56) : Nat → Int → Nat
  | 0, _ => 0
  | d + 1, i => if (rd_T56 l i).f0 = 1 then 0 else 1 + dmx (dpL l d) (rd_T56 l i).f2
def dpN (l : List S56) (i : Nat) : Nat := dpL l (i + 1) (i : Int)
theorem dmx_congr {f g : Int → Nat} : ∀ (ks : List Int), (∀ k ∈ ks, f k = g k) → dmx f ks = dmx g ks
  | [], _ => rfl
  | k :: ks, h => by rw [dmx, dmx, h k (List.mem_cons_self ..), dmx_congr ks (fun k hk => h k (List.mem_cons_of_mem _ hk))]
theorem dmx_le {f : Int → Nat} {n : Nat} : ∀ (ks : List Int), (∀ k ∈ ks, f k ≤ n) → dmx f ks ≤ n
  | [], _ => Nat.zero_le _
  | k :: ks, h => by
    have h1 := h k (List.mem_cons_self ..)
    have h2 := dmx_le ks (fun k hk => h k (List.mem_cons_of_mem _ hk))
    rw [dmx]
    omega
theorem dp_deep {l : List S56} {m : List Bool} {N : Nat} (h : Clo l m N) : ∀ (i : Nat), i < N → m.getD i false = true → (∀ d, i < d → dpL l d (i : Int) = dpN l i) ∧ dpN l i ≤ i + 1 := by
  intro i
  induction i using Nat.strongRecOn with
  | _ i ih =>
    intro hi hm
    by_cases h1 : (nd l i).f0 = 1
    · refine ⟨fun d hd => ?_, ?_⟩
      · obtain ⟨d, rfl⟩ : ∃ e, d = e + 1 := ⟨d - 1, by omega⟩
        rw [dpN, dpL, dpL, rd57_nd, if_pos h1, if_pos h1]
      · rw [dpN, dpL, rd57_nd, if_pos h1]
        omega
    · obtain ⟨_, hk⟩ := ok_kids (h.ok i hi hm) h1
      have key : ∀ k ∈ (nd l i).f2, ∃ n : Nat, k = (n : Int) ∧ n < i ∧ (∀ d, n < d → dpL l d (n : Int) = dpN l n) ∧ dpN l n ≤ n + 1 := by
        intro k hkm
        have hk1 := hk k hkm
        have hk2 := h.kid i hi hm h1 k hkm
        obtain ⟨n, rfl⟩ : ∃ n : Nat, k = (n : Int) := ⟨k.toNat, by omega⟩
        rw [Int.toNat_natCast] at hk2
        exact ⟨n, rfl, by omega, ih n (by omega) (by omega) hk2⟩
      refine ⟨fun d hd => ?_, ?_⟩
      · obtain ⟨d, rfl⟩ : ∃ e, d = e + 1 := ⟨d - 1, by omega⟩
        rw [dpN, dpL, dpL, rd57_nd, if_neg h1, if_neg h1, dmx_congr]
        intro k hkm
        obtain ⟨n, rfl, hn, hd2, _⟩ := key k hkm
        rw [hd2 d (by omega), hd2 i (by omega)]
      · rw [dpN, dpL, rd57_nd, if_neg h1]
        have := dmx_le (f := dpL l i) (n := i) (nd l i).f2 (fun k hkm => by
          obtain ⟨n, rfl, hn, hd2, hle⟩ := key k hkm
          rw [hd2 i (by omega)]
          omega)
        omega
theorem dp_atom {l : List S56} {i : Nat} (h1 : (nd l i).f0 = 1) : dpN l i = 0 := by
  rw [dpN, dpL, rd57_nd, if_pos h1]
theorem dp_list {l : List S56} {m : List Bool} {N : Nat} (h : Clo l m N) {i : Nat} (hi : i < N) (hm : m.getD i false = true) (h1 : (nd l i).f0 ≠ 1) : dpN l i = 1 + dmx (fun k => dpN l k.toNat) (nd l i).f2 := by
  obtain ⟨_, hk⟩ := ok_kids (h.ok i hi hm) h1
  rw [dpN, dpL, rd57_nd, if_neg h1, dmx_congr]
  intro k hkm
  have hk1 := hk k hkm
  have hk2 := h.kid i hi hm h1 k hkm
  obtain ⟨n, rfl⟩ : ∃ n : Nat, k = (n : Int) := ⟨k.toNat, by omega⟩
  rw [Int.toNat_natCast] at hk2 ⊢
  exact (dp_deep h n (by omega) hk2).1 i (by omega)
/-- The depth of a list, kid by kid. -/
def fdp (f : Int → Int) : Int → List Int → Int
  | x, [] => x
  | x, k :: ks => fdp f (max x (f k + 1)) ks
theorem fdp_max (f : Int → Int) (L : Int → Nat) : ∀ (ks : List Int) (y : Nat), (∀ k ∈ ks, f k = (L k : Int)) → fdp f (1 + (y : Int)) ks = 1 + ((max y (dmx L ks) : Nat) : Int)
  | [], y, h => by rw [fdp, dmx]; omega
  | k :: ks, y, h => by
    have e : max (1 + (y : Int)) (f k + 1) = 1 + ((max y (L k) : Nat) : Int) := by rw [h k (List.mem_cons_self ..)]; omega
    rw [fdp, e, fdp_max f L ks _ (fun k hk => h k (List.mem_cons_of_mem _ hk)), dmx]
    omega
theorem dp_kids (l : List S56) (a1 : Int) (met : List Bool) (i M : Nat) (hi : i < M) (hM : M ≤ 1099511627776) (out : List Int) (ho : out.length = M) (hb : ∀ q : Nat, 0 ≤ rd out (q : Int) ∧ rd out (q : Int) ≤ 1099511627777) (ks : List Int) (hk : ks.length ≤ 1099511627776) (hin : ∀ k ∈ ks, 0 ≤ k ∧ k < (i : Int)) (r : Int × Int) :
    ∀ (suf : List Int) (j : Nat) (x : Int), ks.drop j = suf → 0 ≤ x → (∃ k, sexp_Depth.l0 k l a1 (out.set i (fdp (fun k => rd out k) x suf)) met (M : Int) ((i + 1 : Nat) : Int) = some r) →
      ∃ k, sexp_Depth.l1 k l a1 (out.set i x) (i : Int) met (M : Int) (i : Int) ks (ks.length : Int) (j : Int) = some r
  | [], j, x, hd, hx, P => by
    have hj : ks.length ≤ j := by
      have := congrArg List.length hd
      simp at this
      omega
    obtain ⟨k, h⟩ := P
    refine ⟨k + 1, ?_⟩
    rw [sexp_Depth.l1, if_neg (by omega), wrap_succ i (by omega)]
    exact h
  | a :: suf, j, x, hd, hx, P => by
    obtain ⟨hj, ha, hd'⟩ := drop_cons_at hd
    have hr := rd_of ha
    have hia := hin a (List.mem_of_getElem? ha)
    obtain ⟨q, rfl⟩ : ∃ q : Nat, a = (q : Int) := ⟨a.toNat, by omega⟩
    have hq := hb q
    obtain ⟨k, h⟩ := dp_kids l a1 met i M hi hM out ho hb ks hk hin r suf (j + 1) (max x (rd out (q : Int) + 1)) hd' (by omega) P
    refine ⟨k + 1, ?_⟩
    have hw : wrap64 (rd out (q : Int) + 1) = rd out (q : Int) + 1 := by unfold wrap64; omega
    rw [sexp_Depth.l1, if_pos (by omega), if_pos (by omega), if_pos (by omega), if_pos (by omega), if_pos (by rw [List.length_set]; omega), hr, if_pos (by omega), if_pos (by rw [List.length_set]; omega), wrap_succ j (by omega), mx_max, rd_set out i i x (by omega), if_pos rfl, rd_set out i q x (by omega), if_neg (by omega), hw, Int.toNat_natCast, List.set_set]
    exact h
theorem dp_told (l : List S56) (hl : Mod l) (a : Nat) (met : List Bool) (M : Nat) (hm : met.length = M) (hM : M ≤ l.length) (hc : Clo l met M) (ha : a < M) (ham : met.getD a false = true) : ∀ (d i : Nat) (out : List Int), M - i ≤ d → i ≤ M → out.length = M → (∀ q : Nat, 0 ≤ rd out (q : Int) ∧ rd out (q : Int) ≤ 1099511627777) → (∀ q : Nat, i ≤ q → rd out (q : Int) = 0) → (∀ q : Nat, q < i → met.getD q false = true → rd out (q : Int) = (dpN l q : Int)) →
    ∃ k, sexp_Depth.l0 k l (a : Int) out met (M : Int) (i : Int) = some ((dpN l a : Int), 0)
  | 0, i, out, hd, hi, ho, hb, hz, hp => ⟨1, by rw [sexp_Depth.l0, if_neg (by omega), if_pos (by omega), if_pos (by omega), hp a (by omega) ham]⟩
  | d + 1, i, out, hd, hi, ho, hb, hz, hp => by
    have hn := hl.n
    rcases Nat.lt_or_ge i M with hlt | hge
    · have skip : (met.getD i false = true → dpN l i = 0) → ∃ k, sexp_Depth.l0 k l (a : Int) out met (M : Int) ((i + 1 : Nat) : Int) = some ((dpN l a : Int), 0) := by
        intro h0
        refine dp_told l hl a met M hm hM hc ha ham d (i + 1) out (by omega) (by omega) ho hb (fun q hq => hz q (by omega)) (fun q hq hqm => ?_)
        rcases Nat.lt_or_ge q i with h | h
        · exact hp q h hqm
        · obtain rfl : q = i := by omega
          rw [hz q (Nat.le_refl _), h0 hqm]
          rfl
      by_cases hmet : met.getD i false = true
      · have hok := hc.ok i hlt hmet
        by_cases h1 : (nd l i).f0 = 1
        · obtain ⟨k, h⟩ := skip (fun _ => dp_atom h1)
          refine ⟨k + 1 + 1, ?_⟩
          rw [sexp_Depth.l0, if_pos (by omega), if_pos (by omega), if_pos (by omega), rdOf_nat, if_pos hmet, if_pos (by omega), rd57_nd, h1, sexp_Depth.j1, if_pos (by decide), wrap_succ i (by omega)]
          exact h
        · obtain ⟨_, hk⟩ := ok_kids hok h1
          have hkl := hl.k i
          have hf : ∀ k ∈ (nd l i).f2, rd out k = ((dpN l k.toNat : Nat) : Int) := by
            intro k hkm
            have hk1 := hk k hkm
            have hk2 := hc.kid i hlt hmet h1 k hkm
            obtain ⟨n, rfl⟩ : ∃ n : Nat, k = (n : Int) := ⟨k.toNat, by omega⟩
            rw [Int.toNat_natCast] at hk2 ⊢
            exact hp n (by omega) hk2
          have hfd : fdp (fun k => rd out k) 1 (nd l i).f2 = (dpN l i : Int) := by
            have := fdp_max (fun k => rd out k) (fun k => dpN l k.toNat) (nd l i).f2 0 hf
            rw [dp_list hc hlt hmet h1]
            simp only [Nat.zero_max] at this
            rw [show (1 : Int) = 1 + ((0 : Nat) : Int) by rfl, this]
            omega
          have hle := (dp_deep hc i hlt hmet).2
          obtain ⟨k, h⟩ := dp_told l hl a met M hm hM hc ha ham d (i + 1) (out.set i (dpN l i : Int)) (by omega) (by omega) (by rw [List.length_set]; exact ho) (fun q => by
            rw [rd_set out i q _ (by omega)]
            split
            · omega
            · exact hb q) (fun q hq => by
            rw [rd_set out i q _ (by omega), if_neg (by omega)]
            exact hz q (by omega)) (fun q hq hqm => by
            rw [rd_set out i q _ (by omega)]
            split
            · rename_i h; rw [h]
            · exact hp q (by omega) hqm)
          obtain ⟨k2, h2⟩ := dp_kids l (a : Int) met i M hlt (by omega) out ho hb (nd l i).f2 hkl hk _ (nd l i).f2 0 1 rfl (by omega) ⟨k, by rw [hfd]; exact h⟩
          refine ⟨k2 + 1 + 1, ?_⟩
          have hf1 : ((nd l i).f0 == 1) = false := beq_eq_false_iff_ne.2 h1
          rw [sexp_Depth.l0, if_pos (by omega), if_pos (by omega), if_pos (by omega), rdOf_nat, if_pos hmet, if_pos (by omega), rd57_nd, hf1, sexp_Depth.j1, if_neg (by decide), if_pos (by omega), if_pos (by omega), if_pos (by omega), rd57_nd, Int.toNat_natCast]
          exact h2
      · obtain ⟨k, h⟩ := skip (fun h => absurd h hmet)
        refine ⟨k + 1 + 1, ?_⟩
        rw [sexp_Depth.l0, if_pos (by omega), if_pos (by omega), if_pos (by omega), rdOf_nat, if_neg hmet, sexp_Depth.j1, if_pos rfl, wrap_succ i (by omega)]
        exact h
    · exact ⟨1, by rw [sexp_Depth.l0, if_neg (by omega), if_pos (by omega), if_pos (by omega), hp a (by omega) ham]⟩
/-- What Depth tells. -/
def depS (l : List S56) (i : Int) : Int × Int := if (askR l i).2 = 0 then ((dpN l i.toNat : Int), 0) else (0, (askR l i).2)
theorem depth_told (l : List S56) (hl : Mod l) (i : Int) : ∃ k, sexp_Depth.f k l i = some (depS l i) := by
  have hn := hl.n
  obtain ⟨k1, h1⟩ := asked_told l hl i
  by_cases h : (askR l i).2 = 0
  · obtain ⟨g0, g1, g2, g3, g4⟩ := ask_ok h
    obtain ⟨k2, h2⟩ := dp_told l hl i.toNat (askR l i).1 (i.toNat + 1) g2 (by omega) g4 (by omega) g3 (i.toNat + 1) 0 (List.replicate (i.toNat + 1) 0) (by omega) (by omega) (by rw [List.length_replicate]) (fun q => by
      rw [rd_nat', List.getD_eq_getElem?_getD, List.getElem?_replicate]
      split <;> simp) (fun q _ => by
      rw [rd_nat', List.getD_eq_getElem?_getD, List.getElem?_replicate]
      split <;> simp) (fun q hq => absurd hq (by omega))
    rw [Int.toNat_of_nonneg g0] at h2
    have up : ∀ j, sexp_Depth.l0 (k2 + j) l i (List.replicate (i.toNat + 1) 0) (askR l i).1 ((i.toNat + 1 : Nat) : Int) 0 = some ((dpN l i.toNat : Int), 0) := by
      intro j
      induction j with
      | zero => exact h2
      | succ j ih => exact (sexp_Depth.mono_l (k2 + j)).1 _ _ _ _ _ _ _ ih
    refine ⟨k1 + k2, ?_⟩
    unfold sexp_Depth.f depS
    rw [sexp_asked.more h1 k2, Option.bind_some, if_pos h, if_pos h, g2, if_pos (by omega), Int.toNat_natCast, if_pos (by omega), Nat.add_comm]
    exact up k1
  · refine ⟨k1, ?_⟩
    unfold sexp_Depth.f depS
    rw [h1, Option.bind_some, if_neg h, if_neg h]
end
section
open Go.RowKit Go.Proofs.YthklnopfgoekeaaGreatDoorW.PrintWords Go.Proofs.YthklnopfgoekeaaGreatDoorW.PrintLast Go.Proofs.YthklnopfgoekeaaGreatDoorW.PrintMore
set_option linter.unusedVariables false
def opT (i : Nat) : S37 := ⟨1, ⟨#[40]⟩, false, 1, (i : Int) + 1⟩
def clT (i : Nat) : S37 := ⟨2, ⟨#[41]⟩, false, 2, (i : Int) + 1⟩
def xT (k : Nat) : S37 := ⟨8, ⟨#[120]⟩, false, 1, (k : Int) + 1⟩
def opsL (k : Nat) : List S37 := (List.range k).map opT
def clsL (k : Nat) : List S37 := (List.range k).map clT
theorem w_open : writeR 1 ⟨#[40]⟩ false = (⟨#[40]⟩, 0) := by kernel_rfl
theorem w_close : writeR 2 ⟨#[41]⟩ false = (⟨#[41]⟩, 0) := by kernel_rfl
theorem w_x : writeR 8 ⟨#[120]⟩ false = (⟨#[120]⟩, 0) := by kernel_rfl
theorem opsL_next (k : Nat) : opsL (k + 1) = opsL k ++ [opT k] := by simp [opsL, List.range_succ]
theorem clsL_next (k : Nat) : clsL (k + 1) = clsL k ++ [clT k] := by simp [clsL, List.range_succ]
theorem opsL_length (k : Nat) : (opsL k).length = k := by simp [opsL]
theorem clsL_length (k : Nat) : (clsL k).length = k := by simp [clsL]
def stkL (k : Nat) : Stk := (List.range k).map (fun i => (opT i, []))
theorem stkL_next (k : Nat) : stkL (k + 1) = stkL k ++ [(opT k, [])] := by simp [stkL, List.range_succ]
theorem stkL_length (k : Nat) : (stkL k).length = k := by simp [stkL]
theorem push_all (rest : List S37) : ∀ (d i : Nat), i + d ≤ 4096 → parseGo ((List.range' i d).map opT ++ rest) [] [] (stkL i) = parseGo rest [] [] (stkL (i + d))
  | 0, i, _ => rfl
  | d + 1, i, h => by
    rw [List.range'_succ, List.map_cons, List.cons_append, parse_push (x := ⟨#[40]⟩) (f := 0) w_open rfl rfl (by rw [stkL_length]; omega), ← stkL_next, push_all rest d (i + 1) (by omega)]
    congr 2
    omega
theorem push_deep (rest : List S37) : ∀ (d i : Nat), i ≤ 4096 → 4096 < i + d → parseGo ((List.range' i d).map opT ++ rest) [] [] (stkL i) = ([], [], 1, 4097, 72)
  | 0, i, h, h' => by omega
  | d + 1, i, h, h' => by
    rw [List.range'_succ, List.map_cons, List.cons_append]
    by_cases hi : i = 4096
    · subst hi
      rw [parse_deep (x := ⟨#[40]⟩) (f := 0) w_open rfl rfl (by rw [stkL_length]; omega)]
      rfl
    · rw [parse_push (x := ⟨#[40]⟩) (f := 0) w_open rfl rfl (by rw [stkL_length]; omega), ← stkL_next, push_deep rest d (i + 1) (by omega) (by omega)]
def deepN (k j : Nat) : List S56 := ⟨1, xT k, []⟩ :: (List.range j).map (fun i => ⟨2, opT (k - 1 - i), [(i : Int)]⟩)
theorem deepN_next (k j : Nat) : deepN k (j + 1) = deepN k j ++ [⟨2, opT (k - 1 - j), [(j : Int)]⟩] := by simp [deepN, List.range_succ]
theorem deepN_length (k j : Nat) : (deepN k j).length = j + 1 := by simp [deepN]
/-- What is read behind j closing ones. -/
def deepS (k j : Nat) : Stk := stkL (k - 1 - j) ++ [(opT (k - 1 - j), [(j : Int)])]
theorem close_all (k : Nat) : ∀ (d j : Nat), j + d = k → 0 < d → parseGo ((List.range' j d).map clT) (deepN k j) [] (deepS k j) = (deepN k k, [(k : Int)], 0, 0, 0)
  | 0, j, h, h0 => by omega
  | d + 1, j, h, _ => by
    rw [List.range'_succ, List.map_cons, deepS]
    have hl := deepN_length k j
    by_cases hd : d = 0
    · subst hd
      have hj : k - 1 - j = 0 := by omega
      rw [hj]
      have hp : putP (deepN k j) [] (stkL 0) ⟨2, (opT 0, [(j : Int)]).1, (opT 0, [(j : Int)]).2⟩ = (deepN k k, [(k : Int)], []) := by
        have e : stkL 0 = [] := rfl
        rw [e, putP_nil, hl]
        obtain rfl : k = j + 1 := by omega
        rw [deepN_next]
        have : j + 1 - 1 - j = 0 := by omega
        rw [this]
        rfl
      rw [parse_close (g := (opT 0, [(j : Int)])) (x := ⟨#[41]⟩) (f := 0) w_close rfl rfl hp]
      rfl
    · obtain ⟨q, hq⟩ : ∃ q, k - 1 - j = q + 1 := ⟨k - 2 - j, by omega⟩
      have hq2 : k - 1 - (j + 1) = q := by omega
      have hp : putP (deepN k j) [] (stkL (k - 1 - j)) ⟨2, (opT (k - 1 - j), [(j : Int)]).1, (opT (k - 1 - j), [(j : Int)]).2⟩ = (deepN k (j + 1), [], deepS k (j + 1)) := by
        rw [deepN_next, deepS, hq2, hq, stkL_next, putP_snoc, hl]
        simp
      rw [parse_close (g := (opT (k - 1 - j), [(j : Int)])) (x := ⟨#[41]⟩) (f := 0) w_close rfl rfl hp, close_all k d (j + 1) (by omega) (by omega)]
def deepL (k : Nat) : List S37 := opsL k ++ (xT k :: clsL k)
theorem deep_read (k : Nat) (h : k ≤ 4096) : parseR (deepL k) = (deepN k k, [(k : Int)], 0, 0, 0) := by
  have e0 : opsL k = (List.range' 0 k).map opT := by rw [opsL, List.range_eq_range']
  have e1 : clsL k = (List.range' 0 k).map clT := by rw [clsL, List.range_eq_range']
  have e2 : parseR (deepL k) = parseGo (xT k :: clsL k) [] [] (stkL k) := by
    unfold parseR deepL
    rw [e0]
    have := push_all (xT k :: clsL k) k 0 (by omega)
    rw [Nat.zero_add] at this
    exact this
  rw [e2]
  by_cases hk : k = 0
  · subst hk
    rw [parse_atom (t := xT 0) (x := ⟨#[120]⟩) (f := 0) (nodes' := [⟨1, xT 0, []⟩]) (roots' := [0]) (stk' := []) w_x rfl (by decide) (by decide) rfl]
    rfl
  · obtain ⟨q, rfl⟩ : ∃ q, k = q + 1 := ⟨k - 1, by omega⟩
    have hp : putP [] [] (stkL (q + 1)) ⟨1, xT (q + 1), []⟩ = (deepN (q + 1) 0, [], deepS (q + 1) 0) := by
      rw [stkL_next, putP_snoc, deepS]
      rfl
    rw [parse_atom (t := xT (q + 1)) (x := ⟨#[120]⟩) (f := 0) w_x rfl (show ¬ (8 : Int) = 1 by decide) (show ¬ (8 : Int) = 2 by decide) hp, e1]
    exact close_all (q + 1) (q + 1) 0 (by omega) (by omega)
theorem deep_refused (k : Nat) (h : 4096 < k) : parseR (deepL k) = ([], [], 1, 4097, 72) := by
  have e0 : opsL k = (List.range' 0 k).map opT := by rw [opsL, List.range_eq_range']
  unfold parseR deepL
  rw [e0]
  exact push_deep _ k 0 (by omega) (by omega)
theorem deep_texts (k : Nat) : ∀ t ∈ deepL k, t.f1.size ≤ 1 := by
  intro t ht
  rcases List.mem_append.1 ht with ht | ht
  · obtain ⟨i, _, rfl⟩ := List.mem_map.1 ht
    exact Nat.le_refl _
  · rcases List.mem_cons.1 ht with rfl | ht
    · exact Nat.le_refl _
    · obtain ⟨i, _, rfl⟩ := List.mem_map.1 ht
      exact Nat.le_refl _
theorem deepL_length (k : Nat) : (deepL k).length = 2 * k + 1 := by
  rw [deepL, List.length_append, List.length_cons, opsL_length, clsL_length]
  omega
theorem deepN_nd (k j i : Nat) (hi : i < j) : nd (deepN k j) (i + 1) = ⟨2, opT (k - 1 - i), [(i : Int)]⟩ := by
  simp [nd, deepN, hi]
theorem deep_depth (k : Nat) (h : k ≤ 4096) : ∃ K, sexp_Depth.f K (deepN k k) (k : Int) = some ((k : Int), 0) := by
  have hr := deep_read k h
  have hP : PN (fun t => t.f1.size ≤ 1099511627776) (deepN k k) [(k : Int)] (deepL k).length := by
    have := parse_PN (Tk := fun t => t.f1.size ≤ 1099511627776) (l := deepL k) (fun t ht => by have := deep_texts k t ht; show t.f1.size ≤ 1099511627776; omega) (by rw [hr])
    rwa [hr] at this
  have hM := hP.mod (by rw [deepL_length]; omega)
  have hl := deepN_length k k
  have hall : ∀ j, j < (deepN k k).length → okN j (nd (deepN k k) j) = true := fun j hj => hP.okN hj
  have hC := clo_all hall
  have hd : ∀ i, i ≤ k → dpN (deepN k k) i = i := by
    intro i
    induction i with
    | zero => intro _; exact dp_atom rfl
    | succ i ih =>
      intro hi
      have hn := deepN_nd k k i (by omega)
      rw [dp_list hC (i := i + 1) (by omega) (all_get (by omega)) (by rw [hn]; show ¬ (2 : Int) = 1; decide), hn]
      have hi2 := ih (by omega)
      show 1 + max (dpN (deepN k k) (i : Int).toNat) 0 = _
      rw [Int.toNat_natCast, hi2]
      omega
  obtain ⟨K, hK⟩ := depth_told (deepN k k) hM (k : Int)
  refine ⟨K, ?_⟩
  rw [hK, depS, if_pos (ask_all (by omega) hall), Int.toNat_natCast, hd k (Nat.le_refl _)]
end
end
end Go.Proofs.YthklnopfgoekeaaGreatDoor.X
