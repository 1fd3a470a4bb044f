/- SexpJoins, the plain law: what is read of two rows of tokens, one behind the other, is what is read of each. SexpJoins: the law's walk: two rows of tokens of at most 1048576, read each and one behind the other. -/
import Derived.Test.YthklnopfgoekeaaDoorPParse
import Derived.Test.YthklnopfgoekeaaDoorHRows
import Derived.Test.YthklnopfgoekeaaDoorHRParse
import Derived.Test.YthklnopfgoekeaaDoorPAlive
import Derived.StillTailTactics
namespace Go.Proofs.YthklnopfgoekeaaDoor.X
section
open Go.RowKit Go.Proofs.YthklnopfgoekeaaDoorW.PrintWords Go.Proofs.YthklnopfgoekeaaDoorW.PrintLast Go.Proofs.YthklnopfgoekeaaDoorW.PrintMore
set_option linter.unusedVariables false
/-- Behind d nodes more. -/
def shI (d : Int) (l : List Int) : List Int := l.map (fun k => k + d)
def shN (d : Int) (n : S57) : S57 := ⟨n.f0, n.f1, shI d n.f2⟩
def shG (d : Int) (g : S38 × List Int) : S38 × List Int := (g.1, shI d g.2)
def shR (N : List S57) (R : List Int) (x : List S57 × List Int × Int × Int × Int) : List S57 × List Int × Int × Int × Int := if x.2.2.2.2 = 0 then (N ++ x.1.map (shN N.length), R ++ shI N.length x.2.1, x.2.2) else x
theorem shI_snoc (d : Int) (l : List Int) (k : Int) : shI d (l ++ [k]) = shI d l ++ [k + d] := by simp [shI]
theorem put_sh' (N : List S57) (R : List Int) (nodes : List S57) (roots : List Int) (stk : Stk) (n : S57) :
    putP (N ++ nodes.map (shN N.length)) (R ++ shI N.length roots) (stk.map (shG N.length)) (shN N.length n) = (N ++ (putP nodes roots stk n).1.map (shN N.length), R ++ shI N.length (putP nodes roots stk n).2.1, (putP nodes roots stk n).2.2.map (shG N.length)) := by
  have e : (((N ++ nodes.map (shN N.length)).length : Nat) : Int) = (nodes.length : Int) + (N.length : Int) := by
    rw [List.length_append, List.length_map]; omega
  rcases nil_or_snoc stk with rfl | ⟨init, g, rfl⟩
  · rw [putP_nil, List.map_nil, putP_nil, e, List.map_append, shI_snoc]
    simp
  · rw [putP_snoc, List.map_append, List.map_singleton, putP_snoc, e, List.map_append, List.map_append]
    simp [shG, shI_snoc]
theorem go_sh (N : List S57) (R : List Int) : ∀ (l : List S38) (nodes : List S57) (roots : List Int) (stk : Stk), parseGo l (N ++ nodes.map (shN N.length)) (R ++ shI N.length roots) (stk.map (shG N.length)) = shR N R (parseGo l nodes roots stk)
  | [], nodes, roots, stk => by
    rcases nil_or_snoc stk with rfl | ⟨init, g, rfl⟩
    · rfl
    · rw [List.map_append, List.map_singleton, parseGo, List.getLast?_concat, parseGo, List.getLast?_concat]
      rfl
  | t :: ts, nodes, roots, stk => by
    obtain ⟨x, f, hw⟩ : ∃ x f, writeR t.f0 t.f1 t.f2 = (x, f) := ⟨_, _, rfl⟩
    cases hf : (f != 0) with
    | true => rw [parse_bad hw hf, parse_bad hw hf]; rfl
    | false =>
      by_cases h1 : t.f0 = 1
      · by_cases hd : 4096 ≤ stk.length
        · rw [parse_deep hw hf h1 hd, parse_deep hw hf h1 (by rw [List.length_map]; exact hd)]; rfl
        · rw [parse_push hw hf h1 hd, parse_push hw hf h1 (by rw [List.length_map]; exact hd), ← go_sh N R ts, List.map_append]
          rfl
      · by_cases h2 : t.f0 = 2
        · rcases nil_or_snoc stk with rfl | ⟨init, g, rfl⟩
          · rw [List.map_nil, parse_close0 hw hf h2, parse_close0 hw hf h2]; rfl
          · rw [List.map_append, List.map_singleton]
            have hp := put_sh' N R nodes roots init ⟨2, g.1, g.2⟩
            have hp : putP (N ++ nodes.map (shN N.length)) (R ++ shI N.length roots) (init.map (shG N.length)) ⟨2, (shG N.length g).1, (shG N.length g).2⟩ = _ := hp
            rw [parse_close hw hf h2 hp, parse_close (nodes' := (putP nodes roots init ⟨2, g.1, g.2⟩).1) (roots' := (putP nodes roots init ⟨2, g.1, g.2⟩).2.1) (stk' := (putP nodes roots init ⟨2, g.1, g.2⟩).2.2) hw hf h2 rfl]
            exact go_sh N R ts _ _ _
        · have hp := put_sh' N R nodes roots stk ⟨1, t, []⟩
          have hp : putP (N ++ nodes.map (shN N.length)) (R ++ shI N.length roots) (stk.map (shG N.length)) ⟨1, t, []⟩ = _ := hp
          rw [parse_atom hw hf h1 h2 hp, parse_atom (nodes' := (putP nodes roots stk ⟨1, t, []⟩).1) (roots' := (putP nodes roots stk ⟨1, t, []⟩).2.1) (stk' := (putP nodes roots stk ⟨1, t, []⟩).2.2) hw hf h1 h2 rfl]
          exact go_sh N R ts _ _ _
/-- A row in front: where it is read, the next goes on from what it told; where it is refused before its end, so is all. -/
theorem go_append : ∀ (l b : List S38) (nodes : List S57) (roots : List Int) (stk : Stk), ((parseGo l nodes roots stk).2.2.2.2 = 0 → parseGo (l ++ b) nodes roots stk = parseGo b (parseGo l nodes roots stk).1 (parseGo l nodes roots stk).2.1 []) ∧ ((parseGo l nodes roots stk).2.2.2.2 ≠ 0 → (parseGo l nodes roots stk).2.2.2.2 ≠ 71 → parseGo (l ++ b) nodes roots stk = parseGo l nodes roots stk)
  | [], b, nodes, roots, stk => by
    rw [List.nil_append]
    rcases nil_or_snoc stk with rfl | ⟨init, g, rfl⟩
    · exact ⟨fun _ => rfl, fun h => absurd rfl h⟩
    · have e : parseGo [] nodes roots (init ++ [g]) = ([], [], g.1.f3, g.1.f4, 71) := by rw [parseGo, List.getLast?_concat]
      rw [e]
      exact ⟨fun h => absurd h (by decide : ¬ (71 : Int) = 0), fun _ h => absurd rfl h⟩
  | t :: ts, b, nodes, roots, stk => by
    rw [List.cons_append]
    obtain ⟨x, f, hw⟩ : ∃ x f, writeR t.f0 t.f1 t.f2 = (x, f) := ⟨_, _, rfl⟩
    cases hf : (f != 0) with
    | true => rw [parse_bad hw hf, parse_bad hw hf]; exact ⟨fun h => absurd h (by decide : ¬ (73 : Int) = 0), fun _ _ => rfl⟩
    | false =>
      by_cases h1 : t.f0 = 1
      · by_cases hd : 4096 ≤ stk.length
        · rw [parse_deep hw hf h1 hd, parse_deep hw hf h1 hd]; exact ⟨fun h => absurd h (by decide : ¬ (72 : Int) = 0), fun _ _ => rfl⟩
        · rw [parse_push hw hf h1 hd, parse_push hw hf h1 hd]
          exact go_append ts b _ _ _
      · by_cases h2 : t.f0 = 2
        · rcases nil_or_snoc stk with rfl | ⟨init, g, rfl⟩
          · rw [parse_close0 hw hf h2, parse_close0 hw hf h2]; exact ⟨fun h => absurd h (by decide : ¬ (70 : Int) = 0), fun _ _ => rfl⟩
          · rw [parse_close (nodes' := (putP nodes roots init ⟨2, g.1, g.2⟩).1) (roots' := (putP nodes roots init ⟨2, g.1, g.2⟩).2.1) (stk' := (putP nodes roots init ⟨2, g.1, g.2⟩).2.2) hw hf h2 rfl, parse_close (nodes' := (putP nodes roots init ⟨2, g.1, g.2⟩).1) (roots' := (putP nodes roots init ⟨2, g.1, g.2⟩).2.1) (stk' := (putP nodes roots init ⟨2, g.1, g.2⟩).2.2) hw hf h2 rfl]
            exact go_append ts b _ _ _
        · rw [parse_atom (nodes' := (putP nodes roots stk ⟨1, t, []⟩).1) (roots' := (putP nodes roots stk ⟨1, t, []⟩).2.1) (stk' := (putP nodes roots stk ⟨1, t, []⟩).2.2) hw hf h1 h2 rfl, parse_atom (nodes' := (putP nodes roots stk ⟨1, t, []⟩).1) (roots' := (putP nodes roots stk ⟨1, t, []⟩).2.1) (stk' := (putP nodes roots stk ⟨1, t, []⟩).2.2) hw hf h1 h2 rfl]
          exact go_append ts b _ _ _
theorem parse_joined {a b : List S38} (h : (parseR a).2.2.2.2 = 0) (h' : (parseR b).2.2.2.2 = 0) : (parseR (a ++ b)).1 = (parseR a).1 ++ (parseR b).1.map (shN (parseR a).1.length) ∧ (parseR (a ++ b)).2.1 = (parseR a).2.1 ++ shI (parseR a).1.length (parseR b).2.1 ∧ (parseR (a ++ b)).2.2.2.2 = 0 := by
  have e : parseR (a ++ b) = shR (parseR a).1 (parseR a).2.1 (parseR b) := by
    unfold parseR
    rw [(go_append a b [] [] []).1 h]
    have := go_sh (parseGo a [] [] []).1 (parseGo a [] [] []).2.1 b [] [] []
    rw [← this]
    simp [shI]
  rw [e, shR, if_pos h']
  exact ⟨rfl, rfl, h'⟩
theorem parse_refused {a : List S38} (b : List S38) (h : (parseR a).2.2.2.2 ≠ 0) (h71 : (parseR a).2.2.2.2 ≠ 71) : (parseR (a ++ b)).2.2.2.2 = (parseR a).2.2.2.2 := by
  have := (go_append a b [] [] []).2 h h71
  unfold parseR
  rw [this]
theorem wt_sum : ∀ nodes : List S57, nodes.length ≤ (nodes.map wt).sum
  | [] => Nat.le_refl _
  | n :: l => by
    have := wt_sum l
    have h1 : 1 ≤ wt n := by unfold wt; split <;> omega
    rw [List.map_cons, List.sum_cons, List.length_cons]
    omega
theorem PX.small {nodes : List S57} {roots : List Int} {m : Nat} (h : PX nodes roots [] [] m) : nodes.length ≤ m ∧ roots.length ≤ m := by
  have h1 := h.wgt
  have h2 := wt_sum nodes
  have h3 := h.len
  have h4 : ([] : Stk).length = 0 := rfl
  omega
/-- What the walk asks of the three readings. -/
structure JD (l m n : List S57) (r s t : List Int) : Prop where
  nlen : n.length = l.length + m.length
  tlen : t.length = r.length + s.length
  t1 : ∀ k : Nat, k < r.length → rd t (k : Int) = rd r (k : Int)
  t2 : ∀ k : Nat, k < s.length → rd t ((r.length + k : Nat) : Int) = rd s (k : Int) + (l.length : Int) ∧ 0 ≤ rd s (k : Int) ∧ rd s (k : Int) < 1048576
  n1 : ∀ k : Nat, k < m.length → rd_T57 n ((l.length + k : Nat) : Int) = shN l.length (rd_T57 m (k : Int))
  kin : ∀ k : Nat, k < m.length → ∀ j : Nat, j < (rd_T57 m (k : Int)).f2.length → rd (shI l.length (rd_T57 m (k : Int)).f2) (j : Int) = rd (rd_T57 m (k : Int)).f2 (j : Int) + (l.length : Int) ∧ 0 ≤ rd (rd_T57 m (k : Int)).f2 (j : Int) ∧ rd (rd_T57 m (k : Int)).f2 (j : Int) < 1048576
  tk : n.take l.length = l
  sl : l.length ≤ 1048576
  sm : m.length ≤ 1048576
  sr : r.length ≤ 1048576
  ss : s.length ≤ 1048576
theorem rd_nat (l : List Int) (k : Nat) : rd l (k : Int) = l.getD k 0 := rfl
theorem rd57_nat (l : List S57) (k : Nat) : rd_T57 l (k : Int) = l.getD k z57 := rfl
theorem rd_mem {l : List Int} {k : Nat} (h : k < l.length) : rd l (k : Int) ∈ l := by
  rw [rd_nat, List.getD_eq_getElem?_getD, List.getElem?_eq_getElem h]
  exact List.getElem_mem h
theorem rd57_at {l : List S57} {k : Nat} (h : k < l.length) : l[k]? = some (rd_T57 l (k : Int)) := by
  rw [rd57_nat, List.getD_eq_getElem?_getD, List.getElem?_eq_getElem h]
  rfl
theorem rd_shI (d : Int) (l : List Int) (k : Nat) (h : k < l.length) : rd (shI d l) (k : Int) = rd l (k : Int) + d := by
  rw [rd_nat, rd_nat, shI, List.getD_eq_getElem?_getD, List.getD_eq_getElem?_getD, List.getElem?_map, List.getElem?_eq_getElem h]
  rfl
theorem joined_facts {a b : List S38} (ha : a.length ≤ 1048576) (hb : b.length ≤ 1048576) (h : (parseR a).2.2.2.2 = 0) (h' : (parseR b).2.2.2.2 = 0) : JD (parseR a).1 (parseR b).1 (parseR (a ++ b)).1 (parseR a).2.1 (parseR b).2.1 (parseR (a ++ b)).2.1 := by
  obtain ⟨e1, e2, _⟩ := parse_joined h h'
  have xa : PX (parseR a).1 (parseR a).2.1 [] [] a.length := by
    rcases parseR_ok a with h1 | h1
    · exact h1.2
    · exact absurd h h1.1
  have xb : PX (parseR b).1 (parseR b).2.1 [] [] b.length := by
    rcases parseR_ok b with h1 | h1
    · exact h1.2
    · exact absurd h' h1.1
  have sa := xa.small
  have sb := xb.small
  rw [e1, e2]
  generalize (parseR a).1 = l at *
  generalize (parseR b).1 = m at *
  generalize (parseR a).2.1 = r at *
  generalize (parseR b).2.1 = s at *
  refine ⟨by rw [List.length_append, List.length_map], by rw [List.length_append, shI, List.length_map], fun k hk => ?_, fun k hk => ⟨?_, ?_⟩, fun k hk => ?_, fun k hk j hj => ⟨rd_shI _ _ _ hj, ?_⟩, by simp, by omega, by omega, by omega, by omega⟩
  · rw [rd_nat, rd_nat, List.getD_eq_getElem?_getD, List.getD_eq_getElem?_getD, List.getElem?_append_left hk]
  · rw [← rd_shI _ _ _ hk, rd_nat, rd_nat, List.getD_eq_getElem?_getD, List.getD_eq_getElem?_getD, List.getElem?_append_right (by omega), show r.length + k - r.length = k by omega]
  · have := xb.rin _ (rd_mem hk)
    omega
  · rw [rd57_nat, rd57_nat, List.getD_eq_getElem?_getD, List.getD_eq_getElem?_getD, List.getElem?_append_right (by omega), show l.length + k - l.length = k by omega, List.getElem?_map, List.getElem?_eq_getElem hk]
    rfl
  · have := xb.kin k _ (rd57_at hk) _ (rd_mem hj)
    omega
end
section
open Go.RowKit Go.Proofs.YthklnopfgoekeaaDoorW.PrintWords Go.Proofs.YthklnopfgoekeaaDoorW.PrintLast Go.Proofs.YthklnopfgoekeaaDoorW.PrintMore
set_option linter.unusedVariables false
set_option linter.unusedSimpArgs false
attribute [local go_sem high] eqA38
/-- What the walk knows of the three readings. -/
structure JF (a b : List S38) (l m n : List S57) (r s t : List Int) (e f g : Int) : Prop where
  both : e = 0 → f = 0 → g = 0 ∧ JD l m n r s t
  first : e ≠ 0 → e ≠ 71 → g = e
theorem joins_told {a b : List S38} (ha : a.length ≤ 1048576) (hb : b.length ≤ 1048576) {l m n : List S57} {r s t : List Int} {i1 j1 i2 j2 i3 j3 e f g : Int} (h1 : parseR a = (l, r, i1, j1, e)) (h2 : parseR b = (m, s, i2, j2, f)) (h3 : parseR (a ++ b) = (n, t, i3, j3, g)) : JF a b l m n r s t e f g := by
  refine ⟨fun he hf => ?_, fun he h71 => ?_⟩
  · have h := joined_facts (a := a) (b := b) ha hb (by rw [h1]; exact he) (by rw [h2]; exact hf)
    have h' := (parse_joined (a := a) (b := b) (by rw [h1]; exact he) (by rw [h2]; exact hf)).2.2
    rw [h1, h2, h3] at h
    rw [h3] at h'
    exact ⟨h', h⟩
  · have h := parse_refused (a := a) b (by rw [h1]; exact he) (by rw [h1]; exact h71)
    rw [h1, h3] at h
    exact h
theorem parse_f {l : List S38} {x : List S57 × List Int × Int × Int × Int} (h : parseR l = x) (hn : l.length ≤ 1099511627776) (ht : ∀ t ∈ l, t.f1.size ≤ 1099511627776) : sexp_Parse.f l = some x := by
  unfold sexp_Parse.f
  rw [if_pos ⟨hn, List.all_eq_true.2 fun t h => decide_eq_true (ht t h)⟩, h]
theorem shI_length (d : Int) (l : List Int) : (shI d l).length = l.length := by simp [shI]
/-- The numbers that the walk reckons. -/
theorem joins_nums {l m n : List S57} {r s t : List Int} (h : JD l m n r s t) : wrap64 ((l.length : Int) + (m.length : Int)) = (n.length : Int) ∧ wrap64 ((r.length : Int) + (s.length : Int)) = (t.length : Int) := by
  have := h.nlen; have := h.tlen; have := h.sl; have := h.sm; have := h.sr; have := h.ss
  refine ⟨?_, ?_⟩ <;> (unfold wrap64; omega)
theorem joins_root {l m n : List S57} {r s t : List Int} (h : JD l m n r s t) (p : Nat) (hp : ¬ p < r.length) (hp2 : p < t.length) : ∃ q : Nat, q < s.length ∧ wrap64 ((p : Int) - (r.length : Int)) = (q : Int) ∧ wrap64 (rd s (q : Int) + (l.length : Int)) = rd t (p : Int) := by
  obtain ⟨q, rfl⟩ : ∃ q, p = r.length + q := ⟨p - r.length, by omega⟩
  have := h.tlen
  have h2 := h.t2 q (by omega); have := h.sl; have := h.sr; have := h.ss
  refine ⟨q, by omega, ?_, ?_⟩ <;> (unfold wrap64; omega)
theorem wrap_up (k : Nat) (h : k ≤ 4194304) : wrap64 ((k : Int) + 1) = (k : Int) + 1 := by unfold wrap64; omega
theorem wrap_up2 (j n : Nat) (h : j < n) (h2 : n ≤ 9223372036854775807) : wrap64 ((j : Int) + 1) = (j : Int) + 1 := by unfold wrap64; omega
theorem joins_small {l m n : List S57} {r s t : List Int} (h : JD l m n r s t) : t.length ≤ 4194304 ∧ m.length ≤ 4194304 := by
  have := h.tlen; have := h.sr; have := h.ss; have := h.sm
  omega
theorem joins_node {l m n : List S57} {r s t : List Int} (h : JD l m n r s t) (k : Nat) (hk : k < m.length) : wrap64 ((l.length : Int) + (k : Int)) = ((l.length + k : Nat) : Int) ∧ ∀ j : Nat, j < (rd_T57 m (k : Int)).f2.length → wrap64 (rd (rd_T57 m (k : Int)).f2 (j : Int) + (l.length : Int)) = rd (shI l.length (rd_T57 m (k : Int)).f2) (j : Int) := by
  have := h.sl; have := h.sm
  refine ⟨by unfold wrap64; omega, fun j hj => ?_⟩
  have h2 := h.kin k hk j hj
  unfold wrap64; omega
set_option maxHeartbeats 2000000 in
set_option maxRecDepth 100000 in
theorem joins_walk (A0 A1 : Option Addr) (c0 c1 : Nat) (a b : List S38) (w : World) (h0 : Kd.C k38 w A0 a.length a) (hc0 : a.length ≤ c0) (h1 : Kd.C k38 w A1 b.length b) (hc1 : b.length ≤ c1)
    (ha : a.length ≤ 1048576) (hb : b.length ≤ 1048576) (ta : ∀ t ∈ a, t.f1.size ≤ 1048576) (tb : ∀ t ∈ b, t.f1.size ≤ 1048576) :
    Calls Tryd.prog 12 #[.slice A0 a.length c0, .slice A1 b.length c1] w fun e w' => e = .returned (.bool true) ∧ Below w.heap.size w w' := by
  obtain ⟨⟨l, r, i1, j1, e⟩, hp1⟩ : ∃ x, parseR a = x := ⟨_, rfl⟩
  obtain ⟨⟨m, s, i2, j2, f⟩, hp2⟩ : ∃ x, parseR b = x := ⟨_, rfl⟩
  obtain ⟨⟨n, t, i3, j3, g⟩, hp3⟩ : ∃ x, parseR (a ++ b) = x := ⟨_, rfl⟩
  have JT := Aside0.mk (joins_told ha hb hp1 hp2 hp3)
  have F1 := Aside0.mk (parse_f hp1 (by omega) (fun t h => by have := ta t h; omega))
  have F2 := Aside0.mk (parse_f hp2 (by omega) (fun t h => by have := tb t h; omega))
  have F3' := parse_f hp3 (by rw [List.length_append]; omega) (fun t h => by
    rcases List.mem_append.1 h with h | h
    · have := ta t h; omega
    · have := tb t h; omega)
  obtain ⟨ab, hab⟩ : ∃ ab, ab = a ++ b := ⟨_, rfl⟩
  rw [← hab] at F3'
  have F3 := Aside0.mk F3'
  have Hab := Aside0.mk hab
  clear F3' hab
  have H0 := Aside0.mk h0
  have H1 := Aside0.mk h1
  clear hp1 hp2 hp3 ta tb h0 h1
  have HL : Aside0 ((([] : List S38).length + a.length) * 48 ≤ 140737488355328) := ⟨by simp; omega⟩
  have HL2 : Aside0 ((a.length + b.length) * 48 ≤ 140737488355328) := ⟨by omega⟩
  have HA := Aside0.mk ha
  have HBn := Aside0.mk hb
  clear ha hb
  go_enter Tryd.func12, Tryd.ntmps12
  go_upto_region 3 with (at_builtin; (refine Kd.R_append_rows (w0 := w) (W := w) k38 (Rr := k38.K w) w.heap.size rfl (.tmp 26) (.tmp 27) 22 38 _ 48 rfl Tryd.underlying22 info38 rfl (by decide) (by decide) (.slice none 0 0) [] a A0 a.length c0 (fun _ => True) (fun _ => True) (by simp [Act.eval]) (by simp [Act.eval]) (Kd.R_nil _ _ _ _ _) H0.out (fun x cs h => by rw [k38_open h]; exact k38_mkM _ _ _ _) (fun k _ => ⟨trivial, by simp [Value.ownBlock]⟩) (fun _ _ => trivial) (Below.refl _ _) (Nat.le_refl _) HL.out ?_; intro v1 w1 hR1 hb1 hg1 hat1; obtain ⟨A2, c2, hv1⟩ := Kd.R_slice hR1; rw [List.nil_append] at hv1 hR1; subst hv1; have HR1 := Aside0.mk hR1; have HB1 := Aside0.mk hb1; clear hR1 hb1 hg1 hat1))
  go_upto_region 4 with (at_builtin; (refine Kd.R_append_rows (w0 := w) (W := w1) k38 (Rr := k38.K w1) w.heap.size rfl (.tmp 29) (.tmp 30) 22 38 _ 48 rfl Tryd.underlying22 info38 rfl (by decide) (by decide) (.slice A2 a.length c2) a b A1 b.length c1 (fun _ => True) (fun k => k < w.heap.size) (by simp [Act.eval]) (by simp [Act.eval]) HR1.out (Kd.C_below H1.out HB1.out) (fun x cs h => by rw [k38_open h]; exact k38_mkM _ _ _ _) (fun k hk => ⟨trivial, fun e => by have := Kd.R_base HR1.out k e.symm; omega⟩) (fun _ _ => trivial) HB1.out HB1.out.size HL2.out ?_; intro v2 w2 hR2 hb2 hg2 hat2; rw [← Hab.out] at hR2; obtain ⟨A3, c3, hv2⟩ := Kd.R_slice hR2; subst hv2; have HR2 := Aside0.mk hR2; have HB2 := Aside0.mk hb2; clear hR2 hb2 hg2 hat2))
  obtain ⟨A4, c4, hv4, hc4, hC4⟩ := Kd.R_reads HR2.out
  injection hv4 with hA4 _ hcc4
  subst hA4 hcc4
  have H4 := Aside0.mk hC4
  clear hC4
  go_wp2_with fail
  refine (sexp_Parse.calls A0 c0 a l r i1 j1 e w2 (Kd.C_below H0.out HB2.out) hc0 F1.out).mono ?_
  rintro e_ w3 ⟨v0, v1, rfl, hS, hR, hb⟩
  obtain ⟨AL, cL, rfl, hcL, hCL⟩ := Kd.S_reads hS
  obtain ⟨AR, cR, rfl, hcR, hCR⟩ := Kd.R_reads hR
  have HB3 := Aside0.mk (below_then HB2.out HB2.out.size hb)
  have H4' := Aside0.mk (Kd.C_below H4.out hb)
  have CL := Aside0.mk hCL
  have CR := Aside0.mk hCR
  clear hS hR hb hCL hCR
  go_wp2_with fail
  refine (sexp_Parse.calls A1 c1 b m s i2 j2 f w3 (Kd.C_below H1.out HB3.out) hc1 F2.out).mono ?_
  rintro e_ w4 ⟨v0, v1, rfl, hS, hR, hb⟩
  obtain ⟨AM, cM, rfl, hcM, hCM⟩ := Kd.S_reads hS
  obtain ⟨AS, cS, rfl, hcS, hCS⟩ := Kd.R_reads hR
  have HB4 := Aside0.mk (below_then HB3.out HB3.out.size hb)
  have H4'' := Aside0.mk (Kd.C_below H4'.out hb)
  have CL4 := Aside0.mk (Kd.C_below CL.out hb)
  have CR4 := Aside0.mk (Kd.C_below CR.out hb)
  have CM := Aside0.mk hCM
  have CS := Aside0.mk hCS
  clear hS hR hb hCM hCS CL CR
  go_wp2_with fail
  refine (sexp_Parse.calls A3 c3 ab n t i3 j3 g w4 H4''.out hc4 F3.out).mono ?_
  rintro e_ w5 ⟨v0, v1, rfl, hS, hR, hb⟩
  obtain ⟨AN, cN, rfl, hcN, hCN⟩ := Kd.S_reads hS
  obtain ⟨AT, cT, rfl, hcT, hCT⟩ := Kd.R_reads hR
  have HB5 := Aside0.mk (below_then HB4.out HB4.out.size hb)
  have CL5 := Aside0.mk (Kd.C_below CL4.out hb)
  have CR5 := Aside0.mk (Kd.C_below CR4.out hb)
  have CM5 := Aside0.mk (Kd.C_below CM.out hb)
  have CS5 := Aside0.mk (Kd.C_below CS.out hb)
  have CN5 := Aside0.mk hCN
  have CT5 := Aside0.mk hCT
  clear hS hR hb hCN hCT CL4 CR4 CM CS H4 H4' H4'' F1 F2 F3 HR1 HR2 HB1 HB2 HB3 HB4 H0 H1 HL HL2
  by_cases he : e = 0
  · subst he
    by_cases hf : f = 0
    · subst hf
      obtain ⟨rfl, hJ0⟩ := JT.out.both rfl rfl
      have hJ := Aside0.mk hJ0
      obtain ⟨hwn, hwt⟩ := joins_nums hJ0
      have HCL := Aside0.mk hcL
      have HCN := Aside0.mk hcN
      clear JT hJ0 hc0 hc1 hc4 hcL hcR hcM hcS hcN hcT
      go_wp2
      clear hwn hwt
      go_loopw [21] (fun i wr => ∃ (k : Nat), k ≤ t.length ∧ i = .int .i64 k ∧ Aside0 (Below w5.heap.size w5 wr)) (fun i _ => t.length - (intOf i).toNat)
      case atStart => exact ⟨0, by omega, by go_num, ⟨Below.refl _ _⟩⟩
      case round =>
        obtain ⟨k, hk, rfl, HB⟩ := hrel
        by_cases hlt : k < t.length
        · obtain ⟨a1, rfl, e1⟩ := Kd.at_int (Kd.C_below CT5.out HB.out) k (by omega) (by omega)
          simp only [Int.toNat_natCast] at e1
          have HWJ := Aside0.mk (wrap_up k (Nat.le_trans hk (joins_small hJ.out).1))
          by_cases hr : k < r.length
          · obtain ⟨a0, rfl, e0⟩ := Kd.at_int (Kd.C_below CR5.out HB.out) k (by omega) (by omega)
            simp only [Int.toNat_natCast] at e0
            rw [hJ.out.t1 k hr] at e1
            have hnl : decide ((k : Int) < (r.length : Int)) = true := decide_eq_true (by omega)
            have hwj := HWJ.out
            go_wp2
            clear hwj hnl
            go_roundw
            case rel => exact ⟨k + 1, hlt, by first | rfl | exact congrArg (Value.int IntKind.i64) HWJ.out, HB⟩
            case measure => rw [HWJ.out]; simp [intOf]; omega
          · obtain ⟨q, hqs, hw1, hw2⟩ := joins_root hJ.out k hr hlt
            have HW1 := Aside0.mk hw1
            have HW2 := Aside0.mk hw2
            clear hw1 hw2
            obtain ⟨a0, rfl, e0⟩ := Kd.at_int (Kd.C_below CS5.out HB.out) q (by omega) (by omega)
            simp only [Int.toNat_natCast] at e0
            have hnl : decide ((k : Int) < (r.length : Int)) = false := decide_eq_false (by omega)
            have hwj := HWJ.out
            have hw1 := HW1.out
            have hw2 := HW2.out
            go_wp2
            clear hwj hnl hw1 hw2
            go_roundw
            case rel => exact ⟨k + 1, hlt, by first | rfl | exact congrArg (Value.int IntKind.i64) HWJ.out, HB⟩
            case measure => rw [HWJ.out]; simp [intOf]; omega
        · obtain rfl : k = t.length := by omega
          clear hlt hk CR5 CT5 CS5
          go_wp2
          go_loopw [23] (fun i wr => ∃ (k : Nat), k ≤ m.length ∧ i = .int .i64 k ∧ Aside0 (Below w5.heap.size w5 wr)) (fun i _ => m.length - (intOf i).toNat)
          case atStart => exact ⟨0, Nat.zero_le _, rfl, HB⟩
          case round =>
            clear HB
            obtain ⟨k, hk, rfl, HB⟩ := hrel
            by_cases hlt : k < m.length
            · obtain ⟨hw1, hw2⟩ := joins_node hJ.out k hlt
              have hn1 := hJ.out.n1 k hlt
              have hqn : l.length + k < n.length := by have := hJ.out.nlen; omega
              obtain ⟨q, hq⟩ : ∃ q, q = l.length + k := ⟨_, rfl⟩
              rw [← hq] at hw1 hn1 hqn
              have HWJ := Aside0.mk (wrap_up k (Nat.le_trans hk (joins_small hJ.out).2))
              have HWA := Aside0.mk hw1
              have HWK := Aside0.mk hw2
              clear hw1 hw2 hq
              obtain ⟨a0, A6, c6, rfl, e0, e1, e2, e3, e4, e5, e6, l6, g6⟩ := at_T57 (Kd.C_below CN5.out HB.out) q (by omega) (by omega)
              rw [hn1] at e0 e1 e2 e3 e4 e5 e6 l6 g6
              simp only [Int.toNat_natCast] at e0 e1 e2 e3 e4 e5 e6
              clear hn1
              obtain ⟨x, hx⟩ : ∃ x, x = rd_T57 m (k : Int) := ⟨_, rfl⟩
              rw [← hx] at e0 e1 e2 e3 e4 e5 e6 l6 g6 HWK
              obtain ⟨y, hy⟩ : ∃ y, y = shI l.length x.f2 := ⟨_, rfl⟩
              have hyl : y.length = x.f2.length := by rw [hy]; exact shI_length _ _
              replace e6 : wr.cell? _ = some (.slice A6 (shI l.length x.f2).length c6) := e6
              replace g6 : KI.C wr A6 (shI l.length x.f2).length (shI l.length x.f2) := g6
              rw [← hy] at e6 g6 HWK
              have G6 := Aside0.mk g6
              replace e0 : wr.cell? _ = some (.int .i64 x.f0) := e0
              replace e1 : wr.cell? _ = some (.int .i64 x.f1.f0) := e1
              replace e2 : wr.cell? _ = some (.string x.f1.f1) := e2
              replace e3 : wr.cell? _ = some (.bool x.f1.f2) := e3
              replace e4 : wr.cell? _ = some (.int .i64 x.f1.f3) := e4
              replace e5 : wr.cell? _ = some (.int .i64 x.f1.f4) := e5
              rw [hyl] at e6
              have HX := Aside0.mk hx
              have HYL := Aside0.mk hyl
              clear hx hy hyl g6 l6
              have hw1 := HWA.out
              go_upto_region 24 with fail
              clear e0 e1 e2 e3 e4 e5 e6 hw1 hqn HWA
              have HK0 := blk_new wr (.cells #[.int .i64 x.f0, .int .i64 x.f1.f0, .string x.f1.f1, .bool x.f1.f2, .int .i64 x.f1.f3, .int .i64 x.f1.f4, .slice A6 x.f2.length c6] 57)
              obtain ⟨w8, hw8⟩ : ∃ w8, w8 = wr.alloc (.cells #[.int .i64 x.f0, .int .i64 x.f1.f0, .string x.f1.f1, .bool x.f1.f2, .int .i64 x.f1.f3, .int .i64 x.f1.f4, .slice A6 x.f2.length c6] 57) := ⟨_, rfl⟩
              have HB8 : Aside0 (Below w5.heap.size w5 w8) := ⟨by rw [hw8]; exact HB.out.alloc HB.out.size _⟩
              have HBN : Below wr.heap.size wr w8 := by rw [hw8]; exact below_alloc (Below.refl _ _) _
              rw [← hw8] at HK0 ⊢
              have G8 := Aside0.mk (Kd.C_below G6.out HBN)
              have HK := Aside0.mk HK0
              have CM8 := Aside0.mk (Kd.C_below CM5.out HB8.out)
              clear hw8 G6 HBN HK0 HB
              obtain ⟨am, B6, d6, hAM, f0, f1, f2, f3, f4, f5, f6, l6, g6⟩ := at_T57 CM8.out k (by omega) (by omega)
              subst hAM
              rw [← HX.out] at f0 f1 f2 f3 f4 f5 f6 l6 g6
              simp only [Int.toNat_natCast] at f0 f1 f2 f3 f4 f5 f6
              have hmx : x.f2.length ≤ 9223372036854775807 := by have := g6.2.1; simpa [maxLen] using this
              have HMX := Aside0.mk hmx
              clear g6 l6 hmx
              obtain ⟨y0, y1, y2, y3, y4, y5, y6⟩ := box57 HK.out
              go_quiet (fail)
              clear f0 f1 f2 f3 f4 f5 f6 y0 y1 y2 y3 y4 y5 y6
              go_wp2
              go_loopw [25] (fun i wi => ∃ (j : Nat), j ≤ x.f2.length ∧ i = .int .i64 j ∧ Aside0 (Below w8.heap.size w8 wi)) (fun i _ => x.f2.length - (intOf i).toNat)
              case atStart => exact ⟨0, Nat.zero_le _, rfl, ⟨pw_below_drewN (Below.refl _ _) _⟩⟩
              case round =>
                obtain ⟨j, hj, rfl, HBi⟩ := hrel
                have y6 := (box57 (blk_below HK.out HBi.out)).2.2.2.2.2.2
                by_cases hlj : j < x.f2.length
                · obtain ⟨am', B6', d6', hA, f0, f1, f2, f3, f4, f5, f6, l6, g6⟩ := at_T57 (Kd.C_below CM8.out HBi.out) k (by omega) (by omega)
                  injection hA with hA
                  subst hA
                  rw [← HX.out] at f6 l6 g6
                  simp only [Int.toNat_natCast] at f6
                  obtain ⟨a6, rfl, ej⟩ := Kd.at_int (Kd.C_below G8.out HBi.out) j (by omega) (by rw [HYL.out]; omega)
                  obtain ⟨b6, rfl, em⟩ := Kd.at_int g6 j (by omega) (by omega)
                  simp only [Int.toNat_natCast] at ej em
                  have hwk := HWK.out j hlj
                  clear f0 f1 f2 f3 f4 f5 g6 l6
                  go_wp2
                  go_quiet (fail)
                  clear f6 ej em hwk y6
                  have hwj := wrap_up2 j _ hlj HMX.out
                  go_wp2
                  clear hwj
                  go_roundw
                  case rel => exact ⟨j + 1, hlj, by first | rfl | exact congrArg (Value.int IntKind.i64) (wrap_up2 j _ hlj HMX.out), ⟨pw_below_drewN HBi.out _⟩⟩
                  case measure => rw [wrap_up2 j _ hlj HMX.out]; simp [intOf]; omega
                · obtain rfl : j = x.f2.length := by omega
                  clear hlj hj
                  have hwj := HWJ.out
                  go_wp2
                  clear hwj
                  go_roundw
                  case rel => exact ⟨k + 1, hlt, by first | rfl | exact congrArg (Value.int IntKind.i64) HWJ.out, ⟨below_then HB8.out HB8.out.size HBi.out⟩⟩
                  case measure => rw [HWJ.out]; simp [intOf]; omega
            · obtain rfl : k = m.length := by omega
              clear hlt hk
              have hln : l.length ≤ n.length := by have := hJ.out.nlen; omega
              obtain ⟨i0, hi0, _⟩ := Option.map_eq_some_iff.1 info57
              have hcut := cut_to 44 57 .i64 Tryd.underlying44 hi0 AN n.length cN (l.length : Int) (by omega) (by omega) HCN.out
              have CNr := Kd.C_take (Kd.C_below CN5.out HB.out) hln
              rw [hJ.out.tk] at CNr
              have CLr := Kd.C_below CL5.out HB.out
              simp only [Int.toNat_natCast] at hcut
              have HLN := Aside0.mk hln
              have HCNr := Aside0.mk CNr
              have HCLr := Aside0.mk CLr
              clear hln hi0 CNr CLr
              go_wp2_with fail
              refine (tribunalref07_Same.calls AN cN l AL cL l true wr HCNr.out (Nat.le_trans HLN.out HCN.out) HCLr.out HCL.out (by unfold tribunalref07_Same.f; rw [if_pos (sameL_self _)])).mono ?_
              rintro e_ w9 ⟨rfl, hb⟩
              have HB9 := Aside0.mk (below_then HB5.out HB5.out.size (below_then HB.out HB.out.size hb))
              clear hb hcut
              go_wp2_with fail
              refine (tribunallaw07_alive.calls 42 true _ alive_told).mono ?_
              rintro e_ w10 ⟨rfl, hb⟩
              go_wp2
              go_ret
              exact ⟨rfl, below_then HB9.out HB9.out.size hb⟩
    · have hf1 : (f != 0) = true := by simpa using hf
      clear JT hf
      go_upto_region 8 with fail
      go_wp2_with fail
      refine (tribunallaw07_alive.calls 42 true _ alive_told).mono ?_
      rintro e_ w6 ⟨rfl, hb⟩
      go_wp2
      go_ret
      exact ⟨rfl, below_then HB5.out HB5.out.size hb⟩
  · have he1 : (e != 0) = true := by simpa using he
    have he2 : (e == 0) = false := by simpa using he
    by_cases h71 : e = 71
    · have h71b : (e == 71) = true := by simpa using h71
      clear JT he h71
      go_upto_region 8 with fail
      go_wp2_with fail
      refine (tribunallaw07_alive.calls 42 true _ alive_told).mono ?_
      rintro e_ w6 ⟨rfl, hb⟩
      go_wp2
      go_ret
      exact ⟨rfl, below_then HB5.out HB5.out.size hb⟩
    · have h71b : (e == 71) = false := by simpa using h71
      have hg := JT.out.first he h71
      subst hg
      clear JT he h71
      go_upto_region 8 with fail
      go_wp2_with fail
      refine (tribunallaw07_alive.calls 42 true _ alive_told).mono ?_
      rintro e_ w6 ⟨rfl, hb⟩
      go_wp2
      go_ret
      exact ⟨rfl, below_then HB5.out HB5.out.size hb⟩
end
end Go.Proofs.YthklnopfgoekeaaDoor.X
