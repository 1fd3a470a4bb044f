/- An argument of texts, opened: its cells read as a list of texts; what the bound of a second form gives for it. -/
import Derived.Test.YthklnopfgoekeaaDoorHBulk
namespace Go.Proofs.YthklnopfgoekeaaDoor.X
section
open Go.RowKit Go.Proofs.YthklnopfgoekeaaDoorW.PrintWords Go.Proofs.YthklnopfgoekeaaDoorW.PrintLast Go.Proofs.YthklnopfgoekeaaDoorW.PrintMore
open Go.ChangeShapes Go.WideShapes
set_option linter.unusedVariables false
def strD {H : Type} (s : ByteArray) : DataW H := .lit (.string s.data.toList)
theorem str_cells : Tryd.prog.cellsOf 9 = 1 := by kernel_rfl
theorem open_strs {H : Type} {enc : TypeId × Value → H} {w : World} {held : Bool} {A : Option Addr} {len cap fuel : Nat} {x : DataW H × List MemPlace}
    (h : DataW.trod enc Tryd.prog w 0 (fun _ => true) held fuel 41 [.slice A len cap] = some x) :
    ∃ xs : List ByteArray, xs.length = len ∧ len ≤ cap ∧ Kd.C Kd.string w A xs.length xs ∧ (x.1 = .nil ∧ xs = [] ∨ ∃ sp, x.1 = .slice (xs.map strD) sp) := by
  rcases Go.Deep.open_slice Tryd.underlying41 h with ⟨hcs, hx⟩ | ⟨a, l, c, m, n, D, Pl, hcs, -, hl, hm, hmm, hx, hel⟩
  · injection hcs with hcs _
    injection hcs with h1 h2 h3
    subst h1 h2 h3
    exact ⟨[], rfl, Nat.le_refl _, Kd.C_nil _ _, .inl ⟨by rw [hx], rfl⟩⟩
  · injection hcs with hcs _
    injection hcs with h1 h2 h3
    subst h1 h2 h3
    have hmc : m = cap := by rw [hmm]; rfl
    subst hmc
    have each : ∀ i, i < m → ∃ s : ByteArray, w.cell? (a.add i) = some (.string s) ∧ D i = strD s := by
      intro i hi
      obtain ⟨cs', h1, h2⟩ := hel i hi
      rw [str_cells] at h1
      obtain ⟨_, hlen, hcell⟩ := World.cells?_some h1
      match cs', hlen with
      | [v], _ =>
        obtain ⟨s, e1, z1, -⟩ := DataW.trod_string Tryd.underlying9 h2
        injection e1 with e1 _
        subst e1
        have := hcell 0 (by omega)
        rw [Go.Deep.add_add, Nat.mul_one, Nat.add_zero] at this
        exact ⟨s, this, congrArg Prod.fst z1⟩
    obtain ⟨f, hf⟩ := Go.Deep.choose_lt each
    refine ⟨(List.range len).map f, by simp, hl, ⟨by simp, ?_, fun _ => ⟨a, rfl, ?_⟩⟩, .inr ⟨(List.range (m - len)).map fun j => D (len + j), ?_⟩⟩
    · simp
      have : maxLen = 9223372036854775807 ∨ maxLen ≤ 9223372036854775807 := by first | (left; rfl) | (right; decide)
      omega
    · intro j p hj
      rw [List.getElem?_map] at hj
      obtain ⟨i, hi, rfl⟩ := Option.map_eq_some_iff.1 hj
      have hjl : j < len := by
        have := (List.getElem?_eq_some_iff.1 hi).1
        simpa using this
      have hij : i = j := by
        rw [List.getElem?_range hjl] at hi
        exact (Option.some.inj hi).symm
      subst hij
      refine ⟨_, rfl, rfl, fun k u hk => ?_⟩
      have hk0 : k = 0 := by
        have := (List.getElem?_eq_some_iff.1 hk).1
        simp at this
        exact this
      subst hk0
      have := (hf i (by omega)).1
      simp only [List.getElem?_cons_zero, Option.some.injEq] at hk
      rw [← hk]
      have e : i * Kd.string.sz + 0 = i := Nat.mul_one i
      first | exact this | (rw [e]; exact this)
    · rw [hx]
      show DataW.slice _ _ = _
      congr 1
      rw [List.map_map]
      exact List.map_congr_left (fun i hi => (hf i (by have := List.mem_range.1 hi; omega)).2)
theorem bulk_strs {H : Type} : ∀ xs : List ByteArray, xs.length ≤ Rows.uptoBulkAll (xs.map (strD (H := H))) ∧ ∀ t ∈ xs, t.size ≤ Rows.uptoBulkAll (xs.map (strD (H := H)))
  | [] => ⟨Nat.zero_le _, fun t ht => by cases ht⟩
  | x :: xs => by
    obtain ⟨h1, h2⟩ := bulk_strs (H := H) xs
    have h3 : x.size + 1 ≤ Rows.uptoBulk (strD (H := H) x) := by
      unfold strD
      have e : x.data.toList.length = x.size := rfl
      simp only [Rows.uptoBulk]
      omega
    rw [List.map_cons, Rows.uptoBulkAll, List.length_cons]
    refine ⟨by omega, fun t ht => ?_⟩
    rcases List.mem_cons.1 ht with rfl | ht
    · omega
    · have := h2 t ht; omega
/-- Few texts and short ones, behind another argument, under the bound. -/
theorem small_strs {H : Type} {d0 d : DataW H} {r : List (DataW H)} {xs : List ByteArray} (h : Rows.uptoSmall H (d0 :: d :: r) = true) (hd : d = .nil ∧ xs = [] ∨ ∃ sp, d = .slice (xs.map strD) sp) : xs.length ≤ 1048576 ∧ ∀ t ∈ xs, t.size ≤ 1048576 := by
  have hb : Rows.uptoBulkAll (d0 :: d :: r) ≤ 1048576 := by simpa [Rows.uptoSmall] using h
  rw [Rows.uptoBulkAll, Rows.uptoBulkAll] at hb
  rcases hd with ⟨-, rfl⟩ | ⟨sp, rfl⟩
  · exact ⟨Nat.zero_le _, fun t ht => by cases ht⟩
  · obtain ⟨h1, h2⟩ := bulk_strs (H := H) xs
    rw [Rows.uptoBulk] at hb
    exact ⟨by omega, fun t ht => by have := h2 t ht; omega⟩
end
end Go.Proofs.YthklnopfgoekeaaDoor.X
