/- LexisAgain: what is scanned can be written, and is scanned again as the same: the pure part. -/
import Derived.Test.YthklnopfgoekeaaDoorPJoin
import Derived.Test.YthklnopfgoekeaaDoorX14
namespace Go.Proofs.YthklnopfgoekeaaDoor.X
open Go.RowKit Go.Proofs.YthklnopfgoekeaaDoorW.PrintWords Go.Proofs.YthklnopfgoekeaaDoorW.PrintLast Go.Proofs.YthklnopfgoekeaaDoorW.PrintMore
set_option linter.unusedVariables false
/-- What is laid out looks like tokens: each can be written, and all of them take no more than what lay there. -/
theorem layout_writes {l : List UInt8} {ts : List (Int × List UInt8 × Bool)} (h : Layout l ts) (hl : l.length ≤ 1048576) : (∀ p ∈ ts, writeR p.1 (strOf p.2.1) p.2.2 = (strOf (textL p.1 p.2.1 p.2.2), 0)) ∧ ts.length + (ts.map fun p => (textL p.1 p.2.1 p.2.2).length).sum ≤ 2 * l.length ∧ (ts.map fun p => (textL p.1 p.2.1 p.2.2).length).sum ≤ l.length := by
  induction h with
  | nil => exact ⟨(fun p hp => by cases hp), Nat.le_refl _, Nat.le_refl _⟩
  | blank c r ts hc hr ih =>
    rw [List.length_cons] at hl ⊢
    obtain ⟨h1, h2, h3⟩ := ih (by omega)
    exact ⟨h1, by omega, by omega⟩
  | comment b r ts hb hr0 hr ih =>
    rw [List.length_cons, List.length_append] at hl ⊢
    obtain ⟨h1, h2, h3⟩ := ih (by omega)
    exact ⟨h1, by omega, by omega⟩
  | tok w k tx q r ts hw hf hr ih =>
    rw [List.length_append] at hl ⊢
    obtain ⟨h1, h2, h3⟩ := ih (by omega)
    obtain ⟨c1, c2, -⟩ := lex_canon hw
    have hp := lex_pos hw
    refine ⟨fun p hp => ?_, ?_, ?_⟩
    · rcases List.mem_cons.1 hp with rfl | hp
      · exact lex_write c1 (by show (textL k tx q).length ≤ _; omega)
      · exact h1 p hp
    · rw [List.map_cons, List.sum_cons, List.length_cons]
      show _ + ((textL k tx q).length + _) ≤ _
      omega
    · rw [List.map_cons, List.sum_cons]
      show (textL k tx q).length + _ ≤ _
      omega
theorem joinL_le : ∀ (m : List S38) (g : Bool) (ts : List (Int × List UInt8 × Bool)), m.map bareT = ts.map strT → (∀ p ∈ ts, writeR p.1 (strOf p.2.1) p.2.2 = (strOf (textL p.1 p.2.1 p.2.2), 0)) → (∀ t ∈ m, writes t) ∧ (joinL m g).length ≤ ts.length + (ts.map fun p => (textL p.1 p.2.1 p.2.2).length).sum ∧ (g = true → (joinL m g).length ≤ (ts.length - 1) + (ts.map fun p => (textL p.1 p.2.1 p.2.2).length).sum)
  | [], g, ts, hb, h => ⟨(fun t ht => by cases ht), (by rw [joinL]; simp), (fun _ => by rw [joinL]; simp)⟩
  | t :: m, g, [], hb, h => by cases hb
  | t :: m, g, p :: ts, hb, h => by
    injection hb with hb1 hb2
    obtain ⟨h1, h2, h3⟩ := joinL_le m (t.f0 == 1) ts hb2 (fun u hu => h u (List.mem_cons_of_mem _ hu))
    have hw := h p (List.mem_cons_self ..)
    have e0 : t.f0 = p.1 := congrArg (fun z => z.1) hb1
    have e1 : t.f1 = strOf p.2.1 := congrArg (fun z => z.2.1) hb1
    have e2 : t.f2 = p.2.2 := congrArg (fun z => z.2.2) hb1
    rw [← e0, ← e1, ← e2] at hw
    have hlen : (writeR t.f0 t.f1 t.f2).1.data.toList.length = (textL p.1 p.2.1 p.2.2).length := by rw [hw, strOf_list, e0, e2]
    refine ⟨fun u hu => ?_, ?_, ?_⟩
    · rcases List.mem_cons.1 hu with rfl | hu
      · unfold writes; rw [hw]
      · exact h1 u hu
    · rw [joinL, List.length_append, List.length_append, hlen, List.map_cons, List.sum_cons, List.length_cons]
      have : (if (g || t.f0 == 2) = true then [] else [32] : List UInt8).length ≤ 1 := by split <;> simp
      omega
    · rintro rfl
      rw [joinL, List.length_append, List.length_append, hlen, List.map_cons, List.sum_cons, List.length_cons, if_pos (by rfl), List.length_nil]
      omega
theorem scan_err (s : ByteArray) : ∀ (d x : Nat) (l c : Int) (ts m : List S38) (a b e : Int), scanGo s d x l c ts = (m, a, b, e) → e ≠ 0 → m = []
  | 0, x, l, c, ts, m, a, b, e, h, he => by
    rw [scanGo] at h
    injection h with h _
    exact h.symm
  | d + 1, x, l, c, ts, m, a, b, e, h, he => by
    rw [scanGo] at h
    split at h
    · split at h
      · exact scan_err s d _ _ _ _ m a b e h he
      · injection h with h _
        exact h.symm
    · injection h with _ h
      injection h with _ h
      injection h with _ h
      exact absurd h.symm he
theorem lexisAgain_pure : tribunallaw06_LexisAgain.Pure := by
  intro a0 _
  unfold tribunallaw06_LexisAgain.f
  have hs : lexis_Scan.f a0 = some (scanAll a0) := rfl
  rw [awake_told]
  simp only [Option.bind_some, if_true, hs]
  obtain ⟨m, a, b, e, hsc⟩ : ∃ m a b e, scanAll a0 = (m, a, b, e) := ⟨_, _, _, _, rfl⟩
  rw [hsc]
  by_cases he : e = 0
  · subst he
    obtain ⟨hsz, ts, hL, hb⟩ := scanAll_layout hsc
    have hlen : a0.data.toList.length = a0.size := rfl
    obtain ⟨w1, w2, w3⟩ := layout_writes hL (by omega)
    obtain ⟨j1, j2, j3⟩ := joinL_le m true ts hb w1
    have hml : m.length ≤ 1048577 := by have := scanAll_length a0; rw [hsc] at this; exact this
    have hall : m.all (fun t => decide (t.f1.size ≤ 1099511627776)) = true := by
      rw [List.all_eq_true]
      intro t ht
      apply decide_eq_true
      obtain ⟨l1, l2, l3⟩ := writes_lex (j1 t ht)
      have hd : ∀ u : List UInt8, u.length ≤ (dblL u).length := by
        intro u
        induction u with
        | nil => exact Nat.le_refl _
        | cons c u ih => rw [dblL]; split <;> (simp only [List.length_cons]; omega)
      have hle : t.f1.data.toList.length ≤ (textL t.f0 t.f1.data.toList t.f2).length := by
        have := hd t.f1.data.toList
        unfold textL
        repeat' split
        all_goals (try simp only [List.length_cons, List.length_append, List.length_nil])
        all_goals omega
      have : t.f1.data.toList.length = t.f1.size := rfl
      omega
    have hj : lexis_Join.f m = some (joinR m) := by
      unfold lexis_Join.f
      exact if_pos ⟨by omega, hall⟩
    simp only [if_true, hj, Option.bind_some]
    rcases joinR_cases m with ⟨h1, h2, h3⟩ | ⟨h1, h2⟩
    · obtain ⟨m2, hm2, hb2⟩ := join_scan h1 h2
      obtain ⟨k, hk⟩ := same_bare hb2 (by omega)
      refine ⟨k, ?_⟩
      rw [h3]
      have hs2 : lexis_Scan.f (strOf (joinL m true)) = some (m2, 0, 0, 0) := congrArg some hm2
      simp only [hs2, Option.bind_some, if_true]
      rw [if_neg (by decide), hk, Option.bind_some]
    · have hj2 := join_told m true [] j1
      rw [List.nil_append] at hj2
      have h2 : (joinR m).2 = 2 ∧ ¬ (joinL m true).length ≤ 1048576 := by
        unfold joinR at h1 ⊢
        rw [hj2] at h1 ⊢
        split at h1
        · exact absurd rfl h1
        · rename_i hn
          rw [if_neg hn]; exact ⟨rfl, hn⟩
      refine ⟨0, ?_⟩
      rw [if_pos h2.1]
      have hnn := h2.2
      have := j3 rfl
      have hgt : (a0.size : Int) > 524286 := by omega
      rw [decide_eq_true hgt]
  · refine ⟨0, ?_⟩
    simp only [if_neg he]
    have hm : m = [] := by
      unfold scanAll at hsc
      split at hsc
      · injection hsc with h1; exact h1.symm
      · exact scan_err a0 _ _ _ _ _ _ _ _ _ hsc he
    rw [hm]; rfl
end Go.Proofs.YthklnopfgoekeaaDoor.X
