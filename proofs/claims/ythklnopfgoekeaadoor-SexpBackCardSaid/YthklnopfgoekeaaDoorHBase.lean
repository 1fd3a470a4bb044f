import Derived.Test.YthklnopfgoekeaaDoorX2
namespace Go.Proofs.YthklnopfgoekeaaDoor.X
open Go.RowKit Go.Proofs.YthklnopfgoekeaaDoorW.PrintWords Go.Proofs.YthklnopfgoekeaaDoorW.PrintLast Go.Proofs.YthklnopfgoekeaaDoorW.PrintMore
set_option linter.unusedVariables false

/-- What lies below B stands, but for block g. -/
structure Fr (B g : Nat) (w w' : World) : Prop where
  os : w'.os = w.os
  tape : w'.tape = w.tape
  output : w'.output = w.output
  size : w.heap.size ≤ w'.heap.size
  block : ∀ k, k < B → k ≠ g → w'.heap[k]? = w.heap[k]?
theorem Fr.refl (B g : Nat) (w : World) : Fr B g w w := ⟨rfl, rfl, rfl, Nat.le_refl _, fun _ _ _ => rfl⟩
theorem Fr.trans {B g : Nat} {a b c : World} (h : Fr B g a b) (k : Fr B g b c) : Fr B g a c :=
  ⟨k.os.trans h.os, k.tape.trans h.tape, k.output.trans h.output, Nat.le_trans h.size k.size, fun i hi hg => (k.block i hi hg).trans (h.block i hi hg)⟩
theorem Fr.of_below {B g : Nat} {a b : World} (h : Below B a b) : Fr B g a b := ⟨h.os, h.tape, h.output, h.size, fun i hi _ => h.block i hi⟩
theorem Fr.below {B g : Nat} {a b c : World} (h : Fr B g a b) (k : Below B b c) : Fr B g a c := h.trans (Fr.of_below k)
theorem Fr.drewN {B g : Nat} {a b : World} (h : Fr B g a b) (n : Nat) : Fr B g a (b.drewN n) := ⟨h.os, h.tape, h.output, h.size, h.block⟩
theorem Fr.drew {B g : Nat} {a b : World} (h : Fr B g a b) : Fr B g a b.drew := ⟨h.os, h.tape, h.output, h.size, h.block⟩
theorem Fr.alloc {B g : Nat} {a b : World} (h : Fr B g a b) (hB : B ≤ b.heap.size) (o : Obj) : Fr B g a (b.alloc o) := h.below ((Below.refl B b).alloc hB o)
theorem Fr.set_ {B g : Nat} {a b : World} (h : Fr B g a b) (j : Nat) (u : Value) : Fr B g a (b.setCell ⟨g, j, none⟩ u) :=
  ⟨h.os, h.tape, h.output, by simpa [World.setCell] using h.size, fun i hi hg => (Below.heap_setCell b _ u i (by simpa using hg)).trans (h.block i hi hg)⟩
theorem Fr.lower {B B' g : Nat} {a b : World} (h : Fr B g a b) (hB : B' ≤ B) : Fr B' g a b := ⟨h.os, h.tape, h.output, h.size, fun i hi hg => h.block i (Nat.lt_of_lt_of_le hi hB) hg⟩
/-- The block lies at B' or above: what lies below B' stands. -/
theorem Fr.to_below {B B' g : Nat} {a b : World} (h : Fr B g a b) (hB : B' ≤ B) (hg : B' ≤ g) : Below B' a b := ⟨h.os, h.tape, h.output, h.size, fun i hi => h.block i (Nat.lt_of_lt_of_le hi hB) (by omega)⟩

/-- The numbers in bounds. -/
structure Nb (s : ByteArray) (x l c : Int) : Prop where
  size : s.size ≤ 1048576
  x0 : 0 ≤ x
  xs : x ≤ s.size
  l1 : 1 ≤ l
  l2 : l ≤ x + 1
  c1 : 1 ≤ c
  c2 : c ≤ x + 1

/-- Line and column behind k bytes. -/
def lc (s : ByteArray) (x l c : Int) : Nat → Int × Int
  | 0 => (l, c)
  | k + 1 => if bt s (x + k) = 10 then ((lc s x l c k).1 + 1, 1) else ((lc s x l c k).1, (lc s x l c k).2 + 1)
theorem lc_bounds {s : ByteArray} {x l c : Int} (h : Nb s x l c) : ∀ k : Nat, (x + k : Int) ≤ s.size → Nb s (x + k) (lc s x l c k).1 (lc s x l c k).2
  | 0, hk => by
    have e : x + ((0 : Nat) : Int) = x := by omega
    rw [e]; exact h
  | k + 1, hk => by
    have ih := lc_bounds h k (by omega)
    obtain ⟨a1, a2, a3, a4, a5, a6, a7⟩ := ih
    unfold lc
    split
    · exact ⟨a1, by omega, by omega, by simp only; omega, by simp only; omega, by simp only; omega, by simp only; omega⟩
    · exact ⟨a1, by omega, by omega, by simp only; omega, by simp only; omega, by simp only; omega, by simp only; omega⟩
theorem lc_nl {s : ByteArray} {x l c : Int} {k : Nat} (h : (bt s (x + k) == 10) = true) : lc s x l c (k + 1) = ((lc s x l c k).1 + 1, 1) := by
  rw [lc, if_pos (by simpa using h)]
theorem lc_no {s : ByteArray} {x l c : Int} {k : Nat} (h : (bt s (x + k) == 10) = false) : lc s x l c (k + 1) = ((lc s x l c k).1, (lc s x l c k).2 + 1) := by
  rw [lc, if_neg (by simpa using h)]
structure Cells (g : Nat) (s : ByteArray) (x l c : Int) (v : Value) (w : World) : Prop where
  b : w.heap[g]? = some (.cells #[.string s, .int .i64 x, .int .i64 l, .int .i64 c, v] 65 (0, 0))
theorem Cells.c0 {g s x l c v w} (h : Cells g s x l c v w) : w.cell? ⟨g, 0, none⟩ = some (.string s) := by rw [blk_cell h.b]; rfl
theorem Cells.c1 {g s x l c v w} (h : Cells g s x l c v w) : w.cell? ⟨g, 1, none⟩ = some (.int .i64 x) := by rw [blk_cell h.b]; rfl
theorem Cells.c2 {g s x l c v w} (h : Cells g s x l c v w) : w.cell? ⟨g, 2, none⟩ = some (.int .i64 l) := by rw [blk_cell h.b]; rfl
theorem Cells.c3 {g s x l c v w} (h : Cells g s x l c v w) : w.cell? ⟨g, 3, none⟩ = some (.int .i64 c) := by rw [blk_cell h.b]; rfl
theorem Cells.c4 {g s x l c v w} (h : Cells g s x l c v w) : w.cell? ⟨g, 4, none⟩ = some v := by rw [blk_cell h.b]; rfl
theorem Cells.fz {g s x l c v w} (h : Cells g s x l c v w) (j : Nat) : w.frozen? ⟨g, j, none⟩ = false := blk_frozen h.b j

theorem Cells.set1 {g s x l c v w} (h : Cells g s x l c v w) (x' : Int) : Cells g s x' l c v (w.setCell ⟨g, 1, none⟩ (.int .i64 x')) := ⟨blk_set h.b 1 _⟩
theorem Cells.set2 {g s x l c v w} (h : Cells g s x l c v w) (l' : Int) : Cells g s x l' c v (w.setCell ⟨g, 2, none⟩ (.int .i64 l')) := ⟨blk_set h.b 2 _⟩
theorem Cells.set3 {g s x l c v w} (h : Cells g s x l c v w) (c' : Int) : Cells g s x l c' v (w.setCell ⟨g, 3, none⟩ (.int .i64 c')) := ⟨blk_set h.b 3 _⟩
theorem Cells.set4 {g s x l c v w} (h : Cells g s x l c v w) (v' : Value) : Cells g s x l c v' (w.setCell ⟨g, 4, none⟩ v') := ⟨blk_set h.b 4 _⟩
theorem Cells.drewN {g s x l c v w} (h : Cells g s x l c v w) (n : Nat) : Cells g s x l c v (w.drewN n) := ⟨h.b⟩
theorem Cells.drew {g s x l c v w} (h : Cells g s x l c v w) : Cells g s x l c v w.drew := ⟨h.b⟩
theorem Cells.alloc {g s x l c v w} (h : Cells g s x l c v w) (o : Obj) : Cells g s x l c v (w.alloc o) := ⟨blk_alloc h.b o⟩
theorem Cells.below {g s x l c v w w'} (h : Cells g s x l c v w) (hb : Below w.heap.size w w') : Cells g s x l c v w' := ⟨blk_below h.b hb⟩
theorem Cells.lt {g s x l c v w} (h : Cells g s x l c v w) : g < w.heap.size := blk_lt h.b
/-- Nothing but block g has turned. -/
structure Only (g : Nat) (w w' : World) : Prop where
  os : w'.os = w.os
  tape : w'.tape = w.tape
  output : w'.output = w.output
  size : w.heap.size ≤ w'.heap.size
  block : ∀ k, k < w.heap.size → k ≠ g → w'.heap[k]? = w.heap[k]?
theorem Only.refl (g : Nat) (w : World) : Only g w w := ⟨rfl, rfl, rfl, Nat.le_refl _, fun _ _ _ => rfl⟩
theorem Only.drewN {g : Nat} {a b : World} (h : Only g a b) (n : Nat) : Only g a (b.drewN n) := ⟨h.os, h.tape, h.output, h.size, h.block⟩
theorem Only.set_ {g : Nat} {a b : World} (h : Only g a b) (j : Nat) (u : Value) : Only g a (b.setCell ⟨g, j, none⟩ u) :=
  ⟨h.os, h.tape, h.output, by simpa [World.setCell] using h.size, fun i hi hg => (Below.heap_setCell b _ u i (by simpa using hg)).trans (h.block i hi hg)⟩
theorem Only.trans {g : Nat} {a b c : World} (h : Only g a b) (k : Only g b c) : Only g a c :=
  ⟨k.os.trans h.os, k.tape.trans h.tape, k.output.trans h.output, Nat.le_trans h.size k.size, fun i hi hg => (k.block i (Nat.lt_of_lt_of_le hi h.size) hg).trans (h.block i hi hg)⟩
theorem Only.of_below {g : Nat} {a b : World} (h : Below a.heap.size a b) : Only g a b := ⟨h.os, h.tape, h.output, h.size, fun i hi _ => h.block i hi⟩
theorem Only.fr {B g : Nat} {a b : World} (h : Only g a b) (hB : B ≤ a.heap.size) : Fr B g a b := ⟨h.os, h.tape, h.output, h.size, fun i hi hg => h.block i (Nat.lt_of_lt_of_le hi hB) hg⟩
/-- The tokens' row stands where only block g (below it) has turned. -/
theorem Only.row {B g : Nat} {a b : World} {v : Value} {ts : List S38} (h : Only g a b) (hg : g < B) (hr : Kd.R k38 38 a B (fun k => B ≤ k) v ts) : Kd.R k38 38 b B (fun k => B ≤ k) v ts :=
  Kd.R_step hr (fun k hk hlt => h.block k hlt (by omega))
/-- The scanner at block g: text, place, line, column; its tokens in a row of the call's own, from block B on. -/
structure Sc (B g : Nat) (s : ByteArray) (x l c : Int) (ts : List S38) (w : World) : Prop where
  lt : g < B
  le : B ≤ w.heap.size
  has : ∃ v : Value, Cells g s x l c v w ∧ Kd.R k38 38 w B (fun k => B ≤ k) v ts
end Go.Proofs.YthklnopfgoekeaaDoor.X
