/- An argument of nodes, opened: its cells read as a list of nodes. What the bound of a second form gives for it: a table of moderate size. -/
import Derived.Test.YthklnopfgoekeaaGreatDoorPText
import Derived.Test.YthklnopfgoekeaaGreatDoorRows
import Derived.Deep.Slices
import Derived.ChangeArms
namespace Go.Proofs.YthklnopfgoekeaaGreatDoor.X
open Go.RowKit Go.Proofs.YthklnopfgoekeaaGreatDoorW.PrintWords Go.Proofs.YthklnopfgoekeaaGreatDoorW.PrintLast Go.Proofs.YthklnopfgoekeaaGreatDoorW.PrintMore
open Go.ChangeShapes Go.WideShapes
set_option linter.unusedVariables false
theorem tok_cells : Tryz.prog.cellsOf 37 = 5 := by kernel_rfl
theorem node_cells : Tryz.prog.cellsOf 56 = 7 := by kernel_rfl
theorem int_cells : Tryz.prog.cellsOf 3 = 1 := by kernel_rfl
theorem ints_cells : Tryz.prog.cellsOf 31 = 1 := by kernel_rfl
/-- A token's datum. -/
def tokD {H : Type} (t : S37) : DataW H := .agg [.lit (.int .i64 t.f0), .lit (.string t.f1.data.toList), .lit (.bool t.f2), .lit (.int .i64 t.f3), .lit (.int .i64 t.f4)]
set_option maxRecDepth 100000 in
theorem open_tok {H : Type} {enc : TypeId × Value → H} {w : World} {base fuel : Nat} {spare : Nat → Bool} {held : Bool} {cs : List Value} {x : DataW H × List MemPlace}
    (h : DataW.trod enc Tryz.prog w base spare held fuel 37 cs = some x) : ∃ t : S37, cs = [.int .i64 t.f0, .string t.f1, .bool t.f2, .int .i64 t.f3, .int .i64 t.f4] ∧ x.1 = tokD t := by
  obtain ⟨xs, n, -, hx, hl, hlen, hf⟩ := DataW.trod_struct Tryz.underlying37 h
  rw [tok_cells] at hl
  match xs, hlen, cs, hl with
  | [y0, y1, y2, y3, y4], _, [v0, v1, v2, v3, v4], _ =>
    have g0 := hf 0 _ rfl
    have g1 := hf 1 _ rfl
    have g2 := hf 2 _ rfl
    have g3 := hf 3 _ rfl
    have g4 := hf 4 _ rfl
    simp only [List.getElem?_cons_zero, List.getElem?_cons_succ] at g0 g1 g2 g3 g4
    obtain ⟨n0, e0, z0, -⟩ := DataW.trod_int Tryz.underlying35 g0
    obtain ⟨s1, e1, z1, -⟩ := DataW.trod_string Tryz.underlying9 g1
    obtain ⟨b2, e2, z2⟩ := DataW.trod_bool Tryz.underlying4 g2
    obtain ⟨n3, e3, z3, -⟩ := DataW.trod_int Tryz.underlying3 g3
    obtain ⟨n4, e4, z4, -⟩ := DataW.trod_int Tryz.underlying3 g4
    injection e0 with e0 _
    injection e1 with e1 _
    injection e2 with e2 _
    injection e3 with e3 _
    injection e4 with e4 _
    subst e0 e1 e2 e3 e4
    refine ⟨⟨n0, s1, b2, n3, n4⟩, rfl, ?_⟩
    rw [hx]
    simp [tokD, z0, z1, z2, z3, z4]
/-- A list's kids as a datum. -/
def KidsD {H : Type} (ks : List Int) (d : DataW H) : Prop := d = .nil ∧ ks = [] ∨ ∃ sp, d = .slice (lits .i64 ks) sp
theorem open_kids {H : Type} {enc : TypeId × Value → H} {w : World} {held : Bool} {fuel : Nat} {v : Value} {x : DataW H × List MemPlace}
    (h : DataW.trod enc Tryz.prog w 0 (fun _ => true) held fuel 31 [v] = some x) : ∃ (A : Option Addr) (c : Nat) (ks : List Int), v = .slice A ks.length c ∧ ks.length ≤ c ∧ (Kd.int .i64).C w A ks.length ks ∧ KidsD ks x.1 := by
  rcases open_ints Tryz.underlying31 Tryz.underlying3 int_cells h with ⟨hcs, hx⟩ | ⟨a, len, cap, zs, hcs, -, hl, hm, hz, hx, hc, -⟩
  · injection hcs with hcs _
    subst hcs
    exact ⟨none, 0, [], rfl, Nat.le_refl _, Kd.C_nil _ _, .inl ⟨by rw [hx], rfl⟩⟩
  · injection hcs with hcs _
    subst hcs
    have hzl : zs.length = cap := by rw [hz]; rfl
    have htl : (zs.take len).length = len := by rw [List.length_take]; omega
    refine ⟨some a, cap, zs.take len, by rw [htl], by omega, ⟨rfl, Nat.le_trans (by omega : (zs.take len).length ≤ cap) hm, fun _ => ⟨a, rfl, fun j p hj => ?_⟩⟩, .inr ⟨_, by rw [hx]⟩⟩
    have hj1 := (List.getElem?_eq_some_iff.1 hj).1
    rw [List.getElem?_take, if_pos (by omega)] at hj
    have hcj := hc j (by omega)
    rw [List.getD_eq_getElem?_getD, hj] at hcj
    refine ⟨[.int .i64 p], rfl, rfl, fun k u hk => ?_⟩
    have hk0 := (List.getElem?_eq_some_iff.1 hk).1
    obtain rfl : k = 0 := by simp at hk0; exact hk0
    simp only [List.getElem?_cons_zero, Option.some.injEq] at hk
    subst hk
    show w.cell? (a.add (j * 1 + 0)) = _
    rw [Nat.mul_one, Nat.add_zero]
    exact hcj
/-- A node's datum. -/
def NodeD {H : Type} (t : S56) (d : DataW H) : Prop := ∃ dk, d = .agg [.lit (.int .i64 t.f0), tokD t.f1, dk] ∧ KidsD t.f2 dk
set_option maxRecDepth 100000 in
theorem open_node {H : Type} {enc : TypeId × Value → H} {w : World} {held : Bool} {fuel : Nat} {cs : List Value} {x : DataW H × List MemPlace}
    (h : DataW.trod enc Tryz.prog w 0 (fun _ => true) held fuel 56 cs = some x) :
    ∃ (t : S56) (A6 : Option Addr) (c6 : Nat), cs = [.int .i64 t.f0, .int .i64 t.f1.f0, .string t.f1.f1, .bool t.f1.f2, .int .i64 t.f1.f3, .int .i64 t.f1.f4, .slice A6 t.f2.length c6] ∧ t.f2.length ≤ c6 ∧ (Kd.int .i64).C w A6 t.f2.length t.f2 ∧ NodeD t x.1 := by
  obtain ⟨xs, n, -, hx, hl, hlen, hf⟩ := DataW.trod_struct Tryz.underlying56 h
  rw [node_cells] at hl
  match xs, hlen, cs, hl with
  | [y0, y1, y2], _, [v0, v1, v2, v3, v4, v5, v6], _ =>
    have g0 := hf 0 _ rfl
    have g1 := hf 1 _ rfl
    have g2 := hf 2 _ rfl
    simp only [List.getElem?_cons_zero, List.getElem?_cons_succ] at g0 g1 g2
    have g1' : DataW.trod enc Tryz.prog w 0 (fun _ => true) held n 37 [v1, v2, v3, v4, v5] = some y1 := g1
    have g2' : DataW.trod enc Tryz.prog w 0 (fun _ => true) held n 31 [v6] = some y2 := g2
    obtain ⟨n0, e0, z0, -⟩ := DataW.trod_int Tryz.underlying54 g0
    obtain ⟨t, e1, z1⟩ := open_tok g1'
    obtain ⟨A, c, ks, e2, l2, c2, d2⟩ := open_kids g2'
    injection e0 with e0 _
    injection e1 with e1 er
    injection er with e3 er
    injection er with e4 er
    injection er with e5 er
    injection er with e6 _
    subst e0 e1 e2 e3 e4 e5 e6
    refine ⟨⟨n0, t, ks⟩, A, c, rfl, l2, c2, y2.1, ?_, d2⟩
    rw [hx]
    simp [z0, z1]
instance : Inhabited S56 := ⟨z56⟩
/-- A slice of nodes, opened. -/
theorem open_nodes {H : Type} {enc : TypeId × Value → H} {w : World} {held : Bool} {A : Option Addr} {len cap fuel : Nat} {x : DataW H × List MemPlace}
    (h : DataW.trod enc Tryz.prog w 0 (fun _ => true) held fuel 22 [.slice A len cap] = some x) :
    ∃ xs : List S56, xs.length = len ∧ len ≤ cap ∧ Kd.C k56 w A xs.length xs ∧ (x.1 = .nil ∧ xs = [] ∨ ∃ (D : Nat → DataW H) (sp : List (DataW H)), (∀ i, i < len → NodeD (nd xs i) (D i)) ∧ x.1 = .slice ((List.range len).map D) sp) := by
  rcases Go.Deep.open_slice Tryz.underlying22 h with ⟨hcs, hx⟩ | ⟨a, l, c, m, n, D, Pl, hcs, -, hl, hm, hmm, hx, hel⟩
  · injection hcs with hcs _
    injection hcs with h1 h2 h3
    subst h1 h2 h3
    exact ⟨[], rfl, Nat.le_refl _, Kd.C_nil _ _, .inl ⟨by rw [hx], rfl⟩⟩
  · injection hcs with hcs _
    injection hcs with h1 h2 h3
    subst h1 h2 h3
    have hmc : m = cap := by rw [hmm]; rfl
    subst hmc
    have each : ∀ i, i < m → ∃ t : S56, (∃ (A6 : Option Addr) (c6 : Nat), (∀ j u, ([.int .i64 t.f0, .int .i64 t.f1.f0, .string t.f1.f1, .bool t.f1.f2, .int .i64 t.f1.f3, .int .i64 t.f1.f4, .slice A6 t.f2.length c6] : List Value)[j]? = some u → w.cell? (a.add (i * 7 + j)) = some u) ∧ t.f2.length ≤ c6 ∧ (Kd.int .i64).C w A6 t.f2.length t.f2) ∧ NodeD t (D i) := by
      intro i hi
      obtain ⟨cs', h1, h2⟩ := hel i hi
      rw [node_cells] at h1
      obtain ⟨t, A6, c6, ht, l6, g6, hd⟩ := open_node h2
      obtain ⟨_, hlen, hcell⟩ := World.cells?_some h1
      refine ⟨t, ⟨A6, c6, fun j u hj => ?_, l6, g6⟩, hd⟩
      rw [← ht] at hj
      have hj5 : j < 7 := by
        have := (List.getElem?_eq_some_iff.1 hj).1
        omega
      have := hcell j hj5
      rw [Go.Deep.add_add] at this
      rw [this, hj]
    obtain ⟨f, hf⟩ := Go.Deep.choose_lt each
    refine ⟨(List.range len).map f, by simp, hl, ⟨by simp, ?_, fun _ => ⟨a, rfl, ?_⟩⟩, .inr ⟨D, (List.range (m - len)).map fun j => D (len + j), fun i hi => ?_, ?_⟩⟩
    · simp
      have : maxLen = 9223372036854775807 ∨ maxLen ≤ 9223372036854775807 := by first | (left; rfl) | (right; decide)
      omega
    · intro j p hj
      rw [List.getElem?_map] at hj
      obtain ⟨i, hi, rfl⟩ := Option.map_eq_some_iff.1 hj
      have hjl : j < len := by
        have := (List.getElem?_eq_some_iff.1 hi).1
        simpa using this
      have hij : i = j := by
        rw [List.getElem?_range hjl] at hi
        exact (Option.some.inj hi).symm
      subst hij
      obtain ⟨A6, c6, hc, l6, g6⟩ := (hf i (by omega)).1
      exact ⟨_, rfl, k56_mk w _ l6 g6, fun k u hk => hc k u hk⟩
    · have e : nd ((List.range len).map f) i = f i := by
        unfold nd
        rw [List.getD_eq_getElem?_getD, List.getElem?_map, List.getElem?_range hi]
        rfl
      rw [e]
      exact (hf i (by omega)).2
    · rw [hx]
theorem bulk_pos {H : Type} (d : DataW H) : 1 ≤ Rows.uptoBulk d := by
  cases d with
  | lit l => cases l <;> simp [Rows.uptoBulk]
  | nil => simp [Rows.uptoBulk]
  | _ => simp [Rows.uptoBulk]
theorem bulk_len {H : Type} : ∀ ds : List (DataW H), ds.length ≤ Rows.uptoBulkAll ds
  | [] => Nat.zero_le _
  | d :: ds => by
    have h1 := bulk_pos d
    have h2 := bulk_len ds
    rw [Rows.uptoBulkAll, List.length_cons]
    omega
theorem bulk_mem {H : Type} : ∀ (ds : List (DataW H)) (d : DataW H), d ∈ ds → Rows.uptoBulk d ≤ Rows.uptoBulkAll ds
  | [], d, h => by cases h
  | x :: ds, d, h => by
    rw [Rows.uptoBulkAll]
    rcases List.mem_cons.1 h with rfl | h
    · omega
    · have := bulk_mem ds d h
      omega
theorem bulk_node {H : Type} {t : S56} {d : DataW H} (h : NodeD t d) : t.f1.f1.size ≤ Rows.uptoBulk d ∧ t.f2.length ≤ Rows.uptoBulk d := by
  obtain ⟨dk, rfl, hk⟩ := h
  have e : t.f1.f1.data.toList.length = t.f1.f1.size := rfl
  have hkl : t.f2.length ≤ Rows.uptoBulk dk := by
    rcases hk with ⟨-, h0⟩ | ⟨sp, rfl⟩
    · rw [h0]; exact Nat.zero_le _
    · have := bulk_len (lits (H := H) .i64 t.f2)
      have hl : (lits (H := H) .i64 t.f2).length = t.f2.length := by unfold lits; rw [List.length_map]
      rw [Rows.uptoBulk]
      omega
  unfold tokD
  simp only [Rows.uptoBulk, Rows.uptoBulkAll]
  omega
/-- Few nodes, short texts and few kids, under the bound. -/
theorem mod_nodes {H : Type} {d : DataW H} {r : List (DataW H)} {xs : List S56} (h : Rows.uptoSmall H (d :: r) = true)
    (hd : d = .nil ∧ xs = [] ∨ ∃ (D : Nat → DataW H) (sp : List (DataW H)), (∀ i, i < xs.length → NodeD (nd xs i) (D i)) ∧ d = .slice ((List.range xs.length).map D) sp) : Mod xs := by
  have hb : Rows.uptoBulkAll (d :: r) ≤ 1048576 := by simpa [Rows.uptoSmall] using h
  rw [Rows.uptoBulkAll] at hb
  have out : ∀ i, xs.length ≤ i → nd xs i = z56 := fun i hi => by
    unfold nd
    rw [List.getD_eq_getElem?_getD, List.getElem?_eq_none hi]
    rfl
  have zt : z56.f1.f1.size = 0 := rfl
  have zk : z56.f2.length = 0 := rfl
  rcases hd with ⟨-, rfl⟩ | ⟨D, sp, hD, rfl⟩
  · exact ⟨Nat.zero_le _, fun i => by rw [out i (Nat.zero_le _), zt]; omega, fun i => by rw [out i (Nat.zero_le _), zk]; omega⟩
  · rw [Rows.uptoBulk] at hb
    have hl := bulk_len ((List.range xs.length).map D)
    rw [List.length_map, List.length_range] at hl
    have hm : ∀ i, i < xs.length → Rows.uptoBulk (D i) ≤ 1048576 := fun i hi => by
      have := bulk_mem ((List.range xs.length).map D) (D i) (List.mem_map.2 ⟨i, List.mem_range.2 hi, rfl⟩)
      omega
    refine ⟨by omega, fun i => ?_, fun i => ?_⟩
    · rcases Nat.lt_or_ge i xs.length with hlt | hge
      · have := (bulk_node (hD i hlt)).1
        have := hm i hlt
        omega
      · rw [out i hge, zt]; omega
    · rcases Nat.lt_or_ge i xs.length with hlt | hge
      · have := (bulk_node (hD i hlt)).2
        have := hm i hlt
        omega
      · rw [out i hge, zk]; omega
end Go.Proofs.YthklnopfgoekeaaGreatDoor.X
