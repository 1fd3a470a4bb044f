/- Texts of one kind, joined by wip/merge.py: HBase, HSimple. -/
import Derived.Test.YthklnopfgoekeaaGreatDoorX2
namespace Go.Proofs.YthklnopfgoekeaaGreatDoor.X
section
open Go.RowKit Go.Proofs.YthklnopfgoekeaaGreatDoorW.PrintWords Go.Proofs.YthklnopfgoekeaaGreatDoorW.PrintLast Go.Proofs.YthklnopfgoekeaaGreatDoorW.PrintMore
set_option linter.unusedVariables false

/-- What lies below B stands, but for block g. -/
structure Fr (B g : Nat) (w w' : World) : Prop where
  os : w'.os = w.os
  tape : w'.tape = w.tape
  output : w'.output = w.output
  size : w.heap.size ≤ w'.heap.size
  block : ∀ k, k < B → k ≠ g → w'.heap[k]? = w.heap[k]?
theorem Fr.refl (B g : Nat) (w : World) : Fr B g w w := ⟨rfl, rfl, rfl, Nat.le_refl _, fun _ _ _ => rfl⟩
theorem Fr.trans {B g : Nat} {a b c : World} (h : Fr B g a b) (k : Fr B g b c) : Fr B g a c :=
  ⟨k.os.trans h.os, k.tape.trans h.tape, k.output.trans h.output, Nat.le_trans h.size k.size, fun i hi hg => (k.block i hi hg).trans (h.block i hi hg)⟩
theorem Fr.of_below {B g : Nat} {a b : World} (h : Below B a b) : Fr B g a b := ⟨h.os, h.tape, h.output, h.size, fun i hi _ => h.block i hi⟩
theorem Fr.below {B g : Nat} {a b c : World} (h : Fr B g a b) (k : Below B b c) : Fr B g a c := h.trans (Fr.of_below k)
theorem Fr.drewN {B g : Nat} {a b : World} (h : Fr B g a b) (n : Nat) : Fr B g a (b.drewN n) := ⟨h.os, h.tape, h.output, h.size, h.block⟩
theorem Fr.drew {B g : Nat} {a b : World} (h : Fr B g a b) : Fr B g a b.drew := ⟨h.os, h.tape, h.output, h.size, h.block⟩
theorem Fr.alloc {B g : Nat} {a b : World} (h : Fr B g a b) (hB : B ≤ b.heap.size) (o : Obj) : Fr B g a (b.alloc o) := h.below ((Below.refl B b).alloc hB o)
theorem Fr.set_ {B g : Nat} {a b : World} (h : Fr B g a b) (j : Nat) (u : Value) : Fr B g a (b.setCell ⟨g, j, none⟩ u) :=
  ⟨h.os, h.tape, h.output, by simpa [World.setCell] using h.size, fun i hi hg => (Below.heap_setCell b _ u i (by simpa using hg)).trans (h.block i hi hg)⟩
theorem Fr.lower {B B' g : Nat} {a b : World} (h : Fr B g a b) (hB : B' ≤ B) : Fr B' g a b := ⟨h.os, h.tape, h.output, h.size, fun i hi hg => h.block i (Nat.lt_of_lt_of_le hi hB) hg⟩
/-- The block lies at B' or above: what lies below B' stands. -/
theorem Fr.to_below {B B' g : Nat} {a b : World} (h : Fr B g a b) (hB : B' ≤ B) (hg : B' ≤ g) : Below B' a b := ⟨h.os, h.tape, h.output, h.size, fun i hi => h.block i (Nat.lt_of_lt_of_le hi hB) (by omega)⟩

/-- The numbers in bounds. -/
structure Nb (s : ByteArray) (x l c : Int) : Prop where
  size : s.size ≤ 1048576
  x0 : 0 ≤ x
  xs : x ≤ s.size
  l1 : 1 ≤ l
  l2 : l ≤ x + 1
  c1 : 1 ≤ c
  c2 : c ≤ x + 1

/-- Line and column behind k bytes. -/
def lc (s : ByteArray) (x l c : Int) : Nat → Int × Int
  | 0 => (l, c)
  | k + 1 => if bt s (x + k) = 10 then ((lc s x l c k).1 + 1, 1) else ((lc s x l c k).1, (lc s x l c k).2 + 1)
theorem lc_bounds {s : ByteArray} {x l c : Int} (h : Nb s x l c) : ∀ k : Nat, (x + k : Int) ≤ s.size → Nb s (x + k) (lc s x l c k).1 (lc s x l c k).2
  | 0, hk => by
    have e : x + ((0 : Nat) : Int) = x := by omega
    rw [e]; exact h
  | k + 1, hk => by
    have ih := lc_bounds h k (by omega)
    obtain ⟨a1, a2, a3, a4, a5, a6, a7⟩ := ih
    unfold lc
    split
    · exact ⟨a1, by omega, by omega, by simp only; omega, by simp only; omega, by simp only; omega, by simp only; omega⟩
    · exact ⟨a1, by omega, by omega, by simp only; omega, by simp only; omega, by simp only; omega, by simp only; omega⟩
theorem lc_nl {s : ByteArray} {x l c : Int} {k : Nat} (h : (bt s (x + k) == 10) = true) : lc s x l c (k + 1) = ((lc s x l c k).1 + 1, 1) := by
  rw [lc, if_pos (by simpa using h)]
theorem lc_no {s : ByteArray} {x l c : Int} {k : Nat} (h : (bt s (x + k) == 10) = false) : lc s x l c (k + 1) = ((lc s x l c k).1, (lc s x l c k).2 + 1) := by
  rw [lc, if_neg (by simpa using h)]
structure Cells (g : Nat) (s : ByteArray) (x l c : Int) (v : Value) (w : World) : Prop where
  b : w.heap[g]? = some (.cells #[.string s, .int .i64 x, .int .i64 l, .int .i64 c, v] 94 (0, 0))
theorem Cells.c0 {g s x l c v w} (h : Cells g s x l c v w) : w.cell? ⟨g, 0, none⟩ = some (.string s) := by rw [blk_cell h.b]; rfl
theorem Cells.c1 {g s x l c v w} (h : Cells g s x l c v w) : w.cell? ⟨g, 1, none⟩ = some (.int .i64 x) := by rw [blk_cell h.b]; rfl
theorem Cells.c2 {g s x l c v w} (h : Cells g s x l c v w) : w.cell? ⟨g, 2, none⟩ = some (.int .i64 l) := by rw [blk_cell h.b]; rfl
theorem Cells.c3 {g s x l c v w} (h : Cells g s x l c v w) : w.cell? ⟨g, 3, none⟩ = some (.int .i64 c) := by rw [blk_cell h.b]; rfl
theorem Cells.c4 {g s x l c v w} (h : Cells g s x l c v w) : w.cell? ⟨g, 4, none⟩ = some v := by rw [blk_cell h.b]; rfl
theorem Cells.fz {g s x l c v w} (h : Cells g s x l c v w) (j : Nat) : w.frozen? ⟨g, j, none⟩ = false := blk_frozen h.b j

theorem Cells.set1 {g s x l c v w} (h : Cells g s x l c v w) (x' : Int) : Cells g s x' l c v (w.setCell ⟨g, 1, none⟩ (.int .i64 x')) := ⟨blk_set h.b 1 _⟩
theorem Cells.set2 {g s x l c v w} (h : Cells g s x l c v w) (l' : Int) : Cells g s x l' c v (w.setCell ⟨g, 2, none⟩ (.int .i64 l')) := ⟨blk_set h.b 2 _⟩
theorem Cells.set3 {g s x l c v w} (h : Cells g s x l c v w) (c' : Int) : Cells g s x l c' v (w.setCell ⟨g, 3, none⟩ (.int .i64 c')) := ⟨blk_set h.b 3 _⟩
theorem Cells.set4 {g s x l c v w} (h : Cells g s x l c v w) (v' : Value) : Cells g s x l c v' (w.setCell ⟨g, 4, none⟩ v') := ⟨blk_set h.b 4 _⟩
theorem Cells.drewN {g s x l c v w} (h : Cells g s x l c v w) (n : Nat) : Cells g s x l c v (w.drewN n) := ⟨h.b⟩
theorem Cells.drew {g s x l c v w} (h : Cells g s x l c v w) : Cells g s x l c v w.drew := ⟨h.b⟩
theorem Cells.alloc {g s x l c v w} (h : Cells g s x l c v w) (o : Obj) : Cells g s x l c v (w.alloc o) := ⟨blk_alloc h.b o⟩
theorem Cells.below {g s x l c v w w'} (h : Cells g s x l c v w) (hb : Below w.heap.size w w') : Cells g s x l c v w' := ⟨blk_below h.b hb⟩
theorem Cells.lt {g s x l c v w} (h : Cells g s x l c v w) : g < w.heap.size := blk_lt h.b
/-- Nothing but block g has turned. -/
structure Only (g : Nat) (w w' : World) : Prop where
  os : w'.os = w.os
  tape : w'.tape = w.tape
  output : w'.output = w.output
  size : w.heap.size ≤ w'.heap.size
  block : ∀ k, k < w.heap.size → k ≠ g → w'.heap[k]? = w.heap[k]?
theorem Only.refl (g : Nat) (w : World) : Only g w w := ⟨rfl, rfl, rfl, Nat.le_refl _, fun _ _ _ => rfl⟩
theorem Only.drewN {g : Nat} {a b : World} (h : Only g a b) (n : Nat) : Only g a (b.drewN n) := ⟨h.os, h.tape, h.output, h.size, h.block⟩
theorem Only.set_ {g : Nat} {a b : World} (h : Only g a b) (j : Nat) (u : Value) : Only g a (b.setCell ⟨g, j, none⟩ u) :=
  ⟨h.os, h.tape, h.output, by simpa [World.setCell] using h.size, fun i hi hg => (Below.heap_setCell b _ u i (by simpa using hg)).trans (h.block i hi hg)⟩
theorem Only.trans {g : Nat} {a b c : World} (h : Only g a b) (k : Only g b c) : Only g a c :=
  ⟨k.os.trans h.os, k.tape.trans h.tape, k.output.trans h.output, Nat.le_trans h.size k.size, fun i hi hg => (k.block i (Nat.lt_of_lt_of_le hi h.size) hg).trans (h.block i hi hg)⟩
theorem Only.of_below {g : Nat} {a b : World} (h : Below a.heap.size a b) : Only g a b := ⟨h.os, h.tape, h.output, h.size, fun i hi _ => h.block i hi⟩
theorem Only.fr {B g : Nat} {a b : World} (h : Only g a b) (hB : B ≤ a.heap.size) : Fr B g a b := ⟨h.os, h.tape, h.output, h.size, fun i hi hg => h.block i (Nat.lt_of_lt_of_le hi hB) hg⟩
/-- The tokens' row stands where only block g (below it) has turned. -/
theorem Only.row {B g : Nat} {a b : World} {v : Value} {ts : List S37} (h : Only g a b) (hg : g < B) (hr : Kd.R k37 37 a B (fun k => B ≤ k) v ts) : Kd.R k37 37 b B (fun k => B ≤ k) v ts :=
  Kd.R_step hr (fun k hk hlt => h.block k hlt (by omega))
/-- The scanner at block g: text, place, line, column; its tokens in a row of the call's own, from block B on. -/
structure Sc (B g : Nat) (s : ByteArray) (x l c : Int) (ts : List S37) (w : World) : Prop where
  lt : g < B
  le : B ≤ w.heap.size
  has : ∃ v : Value, Cells g s x l c v w ∧ Kd.R k37 37 w B (fun k => B ≤ k) v ts
end
section
open Go.RowKit Go.Proofs.YthklnopfgoekeaaGreatDoorW.PrintWords Go.Proofs.YthklnopfgoekeaaGreatDoorW.PrintLast Go.Proofs.YthklnopfgoekeaaGreatDoorW.PrintMore
set_option linter.unusedVariables false

def markL : List Int := [126, 33, 64, 36, 37, 94, 38, 42, 95, 45, 43, 61, 60, 62, 46, 63, 47]
def markAt (k : Nat) : Int := markL.getD k 0
def marksV : Value := .agg #[.int .u8 126, .int .u8 33, .int .u8 64, .int .u8 36, .int .u8 37, .int .u8 94, .int .u8 38, .int .u8 42, .int .u8 95, .int .u8 45, .int .u8 43, .int .u8 61, .int .u8 60, .int .u8 62, .int .u8 46, .int .u8 63, .int .u8 47]

theorem marks_calls (w : World) : Calls Tryz.prog 97 #[] w fun e w' => e = .returned marksV ∧ Below w.heap.size w w' := by
  go_enter Tryz.func97, Tryz.ntmps97
  go_wp2
  refine bodyPost_ret (v := marksV) (by simp [results, Tryz.results97, go_sem, marksV]) rfl ?_
  exact ⟨rfl, (Below.refl _ _).alloc (Nat.le_refl _) _⟩
theorem marks_index (k : Nat) (hk : k < 17) : ∀ w : World, (Instr.index 125 marksV (.int .i64 k)).run Tryz.prog w = .ok (.int .u8 (markAt k)) w := by
  rcases k with _ | _ | _ | _ | _ | _ | _ | _ | _ | _ | _ | _ | _ | _ | _ | _ | _ | k
  · intro w; kernel_rfl
  · intro w; kernel_rfl
  · intro w; kernel_rfl
  · intro w; kernel_rfl
  · intro w; kernel_rfl
  · intro w; kernel_rfl
  · intro w; kernel_rfl
  · intro w; kernel_rfl
  · intro w; kernel_rfl
  · intro w; kernel_rfl
  · intro w; kernel_rfl
  · intro w; kernel_rfl
  · intro w; kernel_rfl
  · intro w; kernel_rfl
  · intro w; kernel_rfl
  · intro w; kernel_rfl
  · intro w; kernel_rfl
  · omega

def markB (c : Int) : Bool := markL.contains c
def simpleB (c : Int) : Bool := (decide (48 ≤ c) && decide (c ≤ 57)) || (decide (97 ≤ bits .or .u8 c 32) && decide (bits .or .u8 c 32 ≤ 122)) || markB c
def lexis_simple.f (a0 : Int) : Option (Bool) := some (simpleB a0)
theorem digit_true (a0 : Int) (h : decide (48 ≤ a0) = true) (h2 : decide (a0 ≤ 57) = true) (w : World) : Calls Tryz.prog 72 #[.int .u8 a0] w fun e w' => e = .returned (.bool true) ∧ Drawn0 w w' :=
  lexis_digit.calls a0 true w (by simp at h h2; simp [lexis_digit.f, h, h2])
theorem digit_false (a0 : Int) (h : ¬ (48 ≤ a0 ∧ a0 ≤ 57)) (w : World) : Calls Tryz.prog 72 #[.int .u8 a0] w fun e w' => e = .returned (.bool false) ∧ Drawn0 w w' :=
  lexis_digit.calls a0 false w (by unfold lexis_digit.f; split <;> simp; omega)
theorem simple_d (a0 : Int) (h0 : 48 ≤ a0) (h1 : a0 ≤ 57) (w : World) : Calls Tryz.prog 73 #[.int .u8 a0] w fun e w' => e = .returned (.bool true) ∧ Below w.heap.size w w' := by
  go_enter Tryz.func73, Tryz.ntmps73
  go_wp2_with (go_at_call 72; refine (digit_true a0 (by simpa using h0) (by simpa using h1) _).mono ?_; rintro e w' ⟨rfl, ⟨n, rfl⟩⟩)
  go_ret
  exact ⟨rfl, pw_below_drewN (Below.refl _ _) _⟩
theorem simple_l (a0 : Int) (h0 : ¬ (48 ≤ a0 ∧ a0 ≤ 57)) (h1 : 97 ≤ bits .or .u8 a0 32) (h2 : bits .or .u8 a0 32 ≤ 122) (w : World) : Calls Tryz.prog 73 #[.int .u8 a0] w fun e w' => e = .returned (.bool true) ∧ Below w.heap.size w w' := by
  have H0 := Aside0.mk h0
  clear h0
  go_enter Tryz.func73, Tryz.ntmps73
  go_wp2_with (go_at_call 72; refine (digit_false a0 H0.out _).mono ?_; rintro e w' ⟨rfl, ⟨n, rfl⟩⟩)
  go_ret
  exact ⟨rfl, pw_below_drewN (Below.refl _ _) _⟩
theorem mark_no (a0 : Int) (k : Nat) (hk : k < 17) (h : ∀ j, j < k → markAt j ≠ a0) (hb : (a0 == markAt k) = false) : ∀ j, j < k + 1 → markAt j ≠ a0 := by
  intro j hj e
  rcases Nat.lt_or_ge j k with h1 | h1
  · exact h j h1 e
  · obtain rfl : j = k := by omega
    rw [e] at hb
    simp at hb
theorem markAt_eq (j : Nat) (hj : j < 17) : markL[j]? = some (markAt j) := by
  unfold markAt
  rw [List.getD_eq_getElem?_getD, List.getElem?_eq_getElem (by simpa [markL] using hj)]
  rfl
theorem mark_yes (a0 : Int) (k : Nat) (hk : k < 17) (hb : (a0 == markAt k) = true) : markB a0 = true := by
  have e : a0 = markAt k := by simpa using hb
  unfold markB
  rw [e]
  exact List.contains_iff_mem.2 (List.mem_of_getElem? (markAt_eq k hk))
theorem mark_none (a0 : Int) (h : ∀ j, j < 17 → markAt j ≠ a0) : markB a0 = false := by
  unfold markB
  rw [Bool.eq_false_iff]
  intro hc
  have hm := List.contains_iff_mem.1 hc
  obtain ⟨j, hj, e⟩ := List.getElem_of_mem hm
  have hj' : j < 17 := by simpa [markL] using hj
  refine h j hj' ?_
  have := markAt_eq j hj'
  rw [List.getElem?_eq_getElem hj] at this
  injection this with this
  rw [← this, e]
theorem simple_m (a0 : Int) (h0 : ¬ (48 ≤ a0 ∧ a0 ≤ 57)) (h1 : ¬ (97 ≤ bits .or .u8 a0 32 ∧ bits .or .u8 a0 32 ≤ 122)) (w : World) : Calls Tryz.prog 73 #[.int .u8 a0] w fun e w' => e = .returned (.bool (markB a0)) ∧ Below w.heap.size w w' := by
  have H0 := Aside0.mk h0
  clear h0
  by_cases h2 : 97 ≤ bits .or .u8 a0 32
  · have h3 : 122 < bits .or .u8 a0 32 := by omega
    have h3b : decide (bits .or .u8 a0 32 ≤ 122) = false := decide_eq_false (by omega)
    clear h1
    go_enter Tryz.func73, Tryz.ntmps73
    go_wp2_with (first | (go_at_call 72; refine (digit_false a0 H0.out _).mono ?_; rintro e w' ⟨rfl, ⟨n, rfl⟩⟩) | (go_at_call 97; refine (marks_calls _).mono ?_; rintro e w1 ⟨rfl, hb1⟩))
    have B0 := Aside0.mk hb1
    clear hb1
    go_loop [18] (fun i => ∃ k : Nat, k ≤ 17 ∧ i = .int .i64 k ∧ Aside0 (∀ j, j < k → markAt j ≠ a0)) (fun i => 17 - (intOf i).toNat)
    case atStart => exact ⟨0, by omega, rfl, ⟨fun j hj => by omega⟩⟩
    case round =>
      obtain ⟨k, hk, rfl, HA⟩ := hrel
      by_cases hlt : k < 17
      · have hidx := marks_index k hlt
        by_cases hb : (a0 == markAt k) = true
        · go_wp2
          go_ret
          exact ⟨by rw [mark_yes a0 k hlt hb]; rfl, below_then (pw_below_drewN (Below.refl _ _) n) (by simp) B0.out⟩
        · replace hb := Bool.eq_false_iff.mpr hb
          go_wp2
          go_round
          case rel => exact ⟨k + 1, by omega, by go_num, ⟨mark_no a0 k hlt HA.out hb⟩⟩
          case measure => simp [intOf]; omega
      · obtain rfl : k = 17 := by omega
        go_wp2
        go_ret
        exact ⟨by rw [mark_none a0 HA.out]; rfl, below_then (pw_below_drewN (Below.refl _ _) n) (by simp) B0.out⟩
  · have h2b : decide (97 ≤ bits .or .u8 a0 32) = false := decide_eq_false h2
    have h3 : bits .or .u8 a0 32 < 97 := by omega
    clear h1 h2
    go_enter Tryz.func73, Tryz.ntmps73
    go_wp2_with (first | (go_at_call 72; refine (digit_false a0 H0.out _).mono ?_; rintro e w' ⟨rfl, ⟨n, rfl⟩⟩) | (go_at_call 97; refine (marks_calls _).mono ?_; rintro e w1 ⟨rfl, hb1⟩))
    have B0 := Aside0.mk hb1
    clear hb1
    go_loop [18] (fun i => ∃ k : Nat, k ≤ 17 ∧ i = .int .i64 k ∧ Aside0 (∀ j, j < k → markAt j ≠ a0)) (fun i => 17 - (intOf i).toNat)
    case atStart => exact ⟨0, by omega, rfl, ⟨fun j hj => by omega⟩⟩
    case round =>
      obtain ⟨k, hk, rfl, HA⟩ := hrel
      by_cases hlt : k < 17
      · have hidx := marks_index k hlt
        by_cases hb : (a0 == markAt k) = true
        · go_wp2
          go_ret
          exact ⟨by rw [mark_yes a0 k hlt hb]; rfl, below_then (pw_below_drewN (Below.refl _ _) n) (by simp) B0.out⟩
        · replace hb := Bool.eq_false_iff.mpr hb
          go_wp2
          go_round
          case rel => exact ⟨k + 1, by omega, by go_num, ⟨mark_no a0 k hlt HA.out hb⟩⟩
          case measure => simp [intOf]; omega
      · obtain rfl : k = 17 := by omega
        go_wp2
        go_ret
        exact ⟨by rw [mark_none a0 HA.out]; rfl, below_then (pw_below_drewN (Below.refl _ _) n) (by simp) B0.out⟩
theorem lexis_simple.calls (a0 : Int) (r : Bool) (w : World) (h : lexis_simple.f a0 = some r) :
    Calls Tryz.prog 73 #[.int .u8 a0] w fun e w' => e = .returned (.bool r) ∧ Below w.heap.size w w' := by
  unfold lexis_simple.f simpleB at h
  injection h with h
  subst h
  by_cases h0 : 48 ≤ a0 ∧ a0 ≤ 57
  · have e : ((decide (48 ≤ a0) && decide (a0 ≤ 57)) || (decide (97 ≤ bits .or .u8 a0 32) && decide (bits .or .u8 a0 32 ≤ 122)) || markB a0) = true := by simp [h0.1, h0.2]
    rw [e]
    exact simple_d a0 h0.1 h0.2 w
  · have h0' : (decide (48 ≤ a0) && decide (a0 ≤ 57)) = false := by rw [Bool.and_eq_false_iff, decide_eq_false_iff_not, decide_eq_false_iff_not]; omega
    by_cases h1 : 97 ≤ bits .or .u8 a0 32 ∧ bits .or .u8 a0 32 ≤ 122
    · have e : ((decide (48 ≤ a0) && decide (a0 ≤ 57)) || (decide (97 ≤ bits .or .u8 a0 32) && decide (bits .or .u8 a0 32 ≤ 122)) || markB a0) = true := by simp [h1.1, h1.2]
      rw [e]
      exact simple_l a0 h0 h1.1 h1.2 w
    · have h1' : (decide (97 ≤ bits .or .u8 a0 32) && decide (bits .or .u8 a0 32 ≤ 122)) = false := by rw [Bool.and_eq_false_iff, decide_eq_false_iff_not, decide_eq_false_iff_not]; omega
      rw [h0', h1', Bool.false_or, Bool.false_or]
      exact simple_m a0 h0 h1 w
end
end Go.Proofs.YthklnopfgoekeaaGreatDoor.X
