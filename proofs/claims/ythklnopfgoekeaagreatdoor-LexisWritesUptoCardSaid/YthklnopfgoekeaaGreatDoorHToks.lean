/- An argument of tokens, opened: its cells read as a list of tokens; what the bound of a second form gives for it. -/
import Derived.Test.YthklnopfgoekeaaGreatDoorX0
import Derived.Test.YthklnopfgoekeaaGreatDoorRows
import Derived.Deep.Slices
import Derived.ChangeArms
namespace Go.Proofs.YthklnopfgoekeaaGreatDoor.X
open Go.RowKit Go.Proofs.YthklnopfgoekeaaGreatDoorW.PrintWords Go.Proofs.YthklnopfgoekeaaGreatDoorW.PrintLast Go.Proofs.YthklnopfgoekeaaGreatDoorW.PrintMore
open Go.ChangeShapes Go.WideShapes
set_option linter.unusedVariables false
theorem tok_cells : Tryz.prog.cellsOf 37 = 5 := by kernel_rfl
/-- A token's datum. -/
def tokD {H : Type} (t : S37) : DataW H := .agg [.lit (.int .i64 t.f0), .lit (.string t.f1.data.toList), .lit (.bool t.f2), .lit (.int .i64 t.f3), .lit (.int .i64 t.f4)]
set_option maxRecDepth 100000 in
theorem open_tok {H : Type} {enc : TypeId × Value → H} {w : World} {base fuel : Nat} {spare : Nat → Bool} {held : Bool} {cs : List Value} {x : DataW H × List MemPlace}
    (h : DataW.trod enc Tryz.prog w base spare held fuel 37 cs = some x) : ∃ t : S37, cs = [.int .i64 t.f0, .string t.f1, .bool t.f2, .int .i64 t.f3, .int .i64 t.f4] ∧ x.1 = tokD t := by
  obtain ⟨xs, n, -, hx, hl, hlen, hf⟩ := DataW.trod_struct Tryz.underlying37 h
  rw [tok_cells] at hl
  match xs, hlen, cs, hl with
  | [y0, y1, y2, y3, y4], _, [v0, v1, v2, v3, v4], _ =>
    have g0 := hf 0 _ rfl
    have g1 := hf 1 _ rfl
    have g2 := hf 2 _ rfl
    have g3 := hf 3 _ rfl
    have g4 := hf 4 _ rfl
    simp only [List.getElem?_cons_zero, List.getElem?_cons_succ] at g0 g1 g2 g3 g4
    obtain ⟨n0, e0, z0, -⟩ := DataW.trod_int Tryz.underlying35 g0
    obtain ⟨s1, e1, z1, -⟩ := DataW.trod_string Tryz.underlying9 g1
    obtain ⟨b2, e2, z2⟩ := DataW.trod_bool Tryz.underlying4 g2
    obtain ⟨n3, e3, z3, -⟩ := DataW.trod_int Tryz.underlying3 g3
    obtain ⟨n4, e4, z4, -⟩ := DataW.trod_int Tryz.underlying3 g4
    injection e0 with e0 _
    injection e1 with e1 _
    injection e2 with e2 _
    injection e3 with e3 _
    injection e4 with e4 _
    subst e0 e1 e2 e3 e4
    refine ⟨⟨n0, s1, b2, n3, n4⟩, rfl, ?_⟩
    rw [hx]
    simp [tokD, z0, z1, z2, z3, z4]
instance : Inhabited S37 := ⟨z37⟩
/-- A slice of tokens, opened. -/
theorem open_toks {H : Type} {enc : TypeId × Value → H} {w : World} {held : Bool} {A : Option Addr} {len cap fuel : Nat} {x : DataW H × List MemPlace}
    (h : DataW.trod enc Tryz.prog w 0 (fun _ => true) held fuel 48 [.slice A len cap] = some x) :
    ∃ xs : List S37, xs.length = len ∧ len ≤ cap ∧ Kd.C k37 w A xs.length xs ∧ (x.1 = .nil ∧ xs = [] ∨ ∃ sp, x.1 = .slice (xs.map tokD) sp) := by
  rcases Go.Deep.open_slice Tryz.underlying48 h with ⟨hcs, hx⟩ | ⟨a, l, c, m, n, D, Pl, hcs, -, hl, hm, hmm, hx, hel⟩
  · injection hcs with hcs _
    injection hcs with h1 h2 h3
    subst h1 h2 h3
    exact ⟨[], rfl, Nat.le_refl _, Kd.C_nil _ _, .inl ⟨by rw [hx], rfl⟩⟩
  · injection hcs with hcs _
    injection hcs with h1 h2 h3
    subst h1 h2 h3
    have hmc : m = cap := by rw [hmm]; rfl
    subst hmc
    have each : ∀ i, i < m → ∃ t : S37, (∀ j u, ([.int .i64 t.f0, .string t.f1, .bool t.f2, .int .i64 t.f3, .int .i64 t.f4] : List Value)[j]? = some u → w.cell? (a.add (i * 5 + j)) = some u) ∧ D i = tokD t := by
      intro i hi
      obtain ⟨cs', h1, h2⟩ := hel i hi
      rw [tok_cells] at h1
      obtain ⟨t, ht, hd⟩ := open_tok h2
      obtain ⟨_, hlen, hcell⟩ := World.cells?_some h1
      refine ⟨t, fun j u hj => ?_, hd⟩
      rw [← ht] at hj
      have hj5 : j < 5 := by
        have := (List.getElem?_eq_some_iff.1 hj).1
        omega
      have := hcell j hj5
      rw [Go.Deep.add_add] at this
      rw [this, hj]
    obtain ⟨f, hf⟩ := Go.Deep.choose_lt each
    refine ⟨(List.range len).map f, by simp, hl, ⟨by simp, ?_, fun _ => ⟨a, rfl, ?_⟩⟩, .inr ⟨(List.range (m - len)).map fun j => D (len + j), ?_⟩⟩
    · simp
      have : maxLen = 9223372036854775807 ∨ maxLen ≤ 9223372036854775807 := by first | (left; rfl) | (right; decide)
      omega
    · intro j p hj
      rw [List.getElem?_map] at hj
      obtain ⟨i, hi, rfl⟩ := Option.map_eq_some_iff.1 hj
      have hjl : j < len := by
        have := (List.getElem?_eq_some_iff.1 hi).1
        simpa using this
      have hij : i = j := by
        rw [List.getElem?_range hjl] at hi
        exact (Option.some.inj hi).symm
      subst hij
      exact ⟨_, rfl, k37_mk w _, fun k u hk => (hf i (by omega)).1 k u hk⟩
    · rw [hx]
      show DataW.slice _ _ = _
      congr 1
      rw [List.map_map]
      exact List.map_congr_left (fun i hi => (hf i (by have := List.mem_range.1 hi; omega)).2)
theorem bulk_tok {H : Type} (t : S37) : t.f1.size + 1 ≤ Rows.uptoBulk (tokD (H := H) t) := by
  unfold tokD
  have e : t.f1.data.toList.length = t.f1.size := rfl
  simp only [Rows.uptoBulk, Rows.uptoBulkAll]
  omega
theorem bulk_toks {H : Type} : ∀ xs : List S37, xs.length ≤ Rows.uptoBulkAll (xs.map (tokD (H := H))) ∧ ∀ t ∈ xs, t.f1.size ≤ Rows.uptoBulkAll (xs.map (tokD (H := H)))
  | [] => ⟨Nat.zero_le _, fun t ht => by cases ht⟩
  | x :: xs => by
    obtain ⟨h1, h2⟩ := bulk_toks (H := H) xs
    have h3 := bulk_tok (H := H) x
    rw [List.map_cons, Rows.uptoBulkAll, List.length_cons]
    refine ⟨by omega, fun t ht => ?_⟩
    rcases List.mem_cons.1 ht with rfl | ht
    · omega
    · have := h2 t ht; omega
/-- Few tokens and short texts, under the bound. -/
theorem small_toks {H : Type} {d : DataW H} {r : List (DataW H)} {xs : List S37} (h : Rows.uptoSmall H (d :: r) = true) (hd : d = .nil ∧ xs = [] ∨ ∃ sp, d = .slice (xs.map tokD) sp) : xs.length ≤ 1048576 ∧ ∀ t ∈ xs, t.f1.size ≤ 1048576 := by
  have hb : Rows.uptoBulkAll (d :: r) ≤ 1048576 := by simpa [Rows.uptoSmall] using h
  rw [Rows.uptoBulkAll] at hb
  rcases hd with ⟨-, rfl⟩ | ⟨sp, rfl⟩
  · exact ⟨Nat.zero_le _, fun t ht => by cases ht⟩
  · obtain ⟨h1, h2⟩ := bulk_toks (H := H) xs
    rw [Rows.uptoBulk] at hb
    exact ⟨by omega, fun t ht => by have := h2 t ht; omega⟩
end Go.Proofs.YthklnopfgoekeaaGreatDoor.X
