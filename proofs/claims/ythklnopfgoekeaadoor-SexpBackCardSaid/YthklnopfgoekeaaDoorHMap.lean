import Derived.Test.YthklnopfgoekeaaDoorHWords
namespace Go.Proofs.YthklnopfgoekeaaDoor.X
open Go.RowKit Go.Proofs.YthklnopfgoekeaaDoorW.PrintWords Go.Proofs.YthklnopfgoekeaaDoorW.PrintLast Go.Proofs.YthklnopfgoekeaaDoorW.PrintMore
set_option linter.unusedVariables false

def ent (n : Nat) : MapEntry := ⟨.int .i64 ((n : Int) + 1), .func (.func (46 + n)) #[] #[], n⟩
def tab : Nat → Array MapEntry
  | 0 => #[]
  | n + 1 => (tab n).push (ent n)
theorem check_run (e : Bool) (n : Nat) (k : Int) (w : World) : (Instr.checkKey e (n + 1) 3 (.int .i64 k)).run Tryd.prog w = .ok () w := by
  have h2 := Tryd.underlying3
  simp [Instr.checkKey, run_underlying h2]
theorem check_run' (e : Bool) (k : Int) (w : World) : (Instr.checkKey e 10000 3 (.int .i64 k)).run Tryd.prog w = .ok () w := check_run e 9999 k w
theorem find_run (k : Int) (es : List MapEntry) (r : Option (Nat × Value)) (h : Instr.findNow (.int .i64) (.int .i64 k) es 0 = some r) (w : World) : (Instr.findKey 3 (.int .i64 k) es).run Tryd.prog w = .ok r w := by
  have h2 := Tryd.underlying3
  simp [Instr.findKey, run_underlying h2, h]
theorem alloc_setBlock (w : World) (o o' : Obj) (W : World) (hW : W = w.alloc o) : ({ heap := W.heap.setIfInBounds w.heap.size o', tape := w.tape, drawn := w.drawn, os := W.os, output := W.output } : World) = w.alloc o' := by
  subst hW
  have h : (w.alloc o).heap = w.heap.push o := rfl
  have e : (w.heap.push o).setIfInBounds w.heap.size o' = w.heap.push o' := by
    apply Array.ext
    · simp
    · intro i h1 h2
      rcases Nat.lt_or_ge i w.heap.size with h3 | h3
      · rw [Array.getElem_setIfInBounds (by simp; omega), if_neg (by omega), Array.getElem_push_lt h3, Array.getElem_push_lt h3]
      · have : i = w.heap.size := by simp at h2; omega
        subst this
        simp
  rw [h, e]
  rfl
theorem insert_run (w : World) (es : Array MapEntry) (c : Nat) (k : Int) (v : Value) (h : Instr.findNow (.int .i64) (.int .i64 k) es.toList 0 = some none) :
    (Instr.mapUpdate 66 (.map (some w.heap.size)) (.int .i64 k) v).run Tryd.prog (w.alloc (.map es c)) = .ok () (w.alloc (.map (es.push ⟨.int .i64 k, v, c⟩) (c + 1))) := by
  have h1 := Tryd.underlying66
  have h2 := Tryd.underlying3
  have h3 := blk_new w (.map es c)
  simp [Instr.mapUpdate, run_underlying h1, check_run', find_run _ _ _ h, MapKept.run_getObj_map h3, MapKept.run_setObj_map _ h3, Result.andThen]
  exact alloc_setBlock w _ _ _ rfl
theorem look_run (w : World) (b : Nat) (es : Array MapEntry) (c : Nat) (k : Int) (i : Nat) (v : Value) (hb : w.heap[b]? = some (.map es c)) (h : Instr.findNow (.int .i64) (.int .i64 k) es.toList 0 = some (some (i, v))) :
    (Instr.lookup 66 (.map (some b)) (.int .i64 k) true).run Tryd.prog w = .ok (.tuple #[v, .bool true]) w := by
  have h1 := Tryd.underlying66
  have h2 := Tryd.underlying3
  simp [Instr.lookup, run_underlying h1, check_run', find_run _ _ _ h, MapKept.run_getObj_map hb, Result.andThen]
theorem look_none (w : World) (b : Nat) (es : Array MapEntry) (c : Nat) (k : Int) (hb : w.heap[b]? = some (.map es c)) (h : Instr.findNow (.int .i64) (.int .i64 k) es.toList 0 = some none) :
    (Instr.lookup 66 (.map (some b)) (.int .i64 k) true).run Tryd.prog w = .ok (.tuple #[.nilFunc, .bool false]) w := by
  have h1 := Tryd.underlying66
  have h2 := Tryd.underlying3
  have h3 := Tryd.underlying68
  simp [Instr.lookup, run_underlying h1, check_run', find_run _ _ _ h, MapKept.run_getObj_map hb, Result.andThen]
theorem ins_tab (n : Nat) (h : Instr.findNow (.int .i64) (.int .i64 ((n : Int) + 1)) (tab n).toList 0 = some none) (w : World) :
    (Instr.mapUpdate 66 (.map (some w.heap.size)) (.int .i64 ((n : Int) + 1)) (.func (.func (46 + n)) #[] #[])).run Tryd.prog (w.alloc (.map (tab n) n)) = .ok () (w.alloc (.map (tab (n + 1)) (n + 1))) := insert_run w (tab n) n _ _ h
/-- The whole table. -/
def tab9 : Array MapEntry := tab 9
set_option maxRecDepth 100000 in
theorem readers_calls (w : World) : Calls Tryd.prog 31 #[] w fun e w' => e = .returned (.map (some w.heap.size)) ∧ w' = w.alloc (.map tab9 9) := by
  have hmm := @run_makeMap Tryd.prog
  have i0 : ∀ w : World, (Instr.mapUpdate 66 (.map (some w.heap.size)) (.int .i64 1) (.func (.func 46) #[] #[])).run Tryd.prog (w.alloc (.map #[] 0)) = .ok () (w.alloc (.map (tab 1) 1)) := ins_tab 0 rfl
  have i1 : ∀ w : World, (Instr.mapUpdate 66 (.map (some w.heap.size)) (.int .i64 2) (.func (.func 47) #[] #[])).run Tryd.prog (w.alloc (.map (tab 1) 1)) = .ok () (w.alloc (.map (tab 2) 2)) := ins_tab 1 rfl
  have i2 : ∀ w : World, (Instr.mapUpdate 66 (.map (some w.heap.size)) (.int .i64 3) (.func (.func 48) #[] #[])).run Tryd.prog (w.alloc (.map (tab 2) 2)) = .ok () (w.alloc (.map (tab 3) 3)) := ins_tab 2 rfl
  have i3 : ∀ w : World, (Instr.mapUpdate 66 (.map (some w.heap.size)) (.int .i64 4) (.func (.func 49) #[] #[])).run Tryd.prog (w.alloc (.map (tab 3) 3)) = .ok () (w.alloc (.map (tab 4) 4)) := ins_tab 3 rfl
  have i4 : ∀ w : World, (Instr.mapUpdate 66 (.map (some w.heap.size)) (.int .i64 5) (.func (.func 50) #[] #[])).run Tryd.prog (w.alloc (.map (tab 4) 4)) = .ok () (w.alloc (.map (tab 5) 5)) := ins_tab 4 rfl
  have i5 : ∀ w : World, (Instr.mapUpdate 66 (.map (some w.heap.size)) (.int .i64 6) (.func (.func 51) #[] #[])).run Tryd.prog (w.alloc (.map (tab 5) 5)) = .ok () (w.alloc (.map (tab 6) 6)) := ins_tab 5 rfl
  have i6 : ∀ w : World, (Instr.mapUpdate 66 (.map (some w.heap.size)) (.int .i64 7) (.func (.func 52) #[] #[])).run Tryd.prog (w.alloc (.map (tab 6) 6)) = .ok () (w.alloc (.map (tab 7) 7)) := ins_tab 6 rfl
  have i7 : ∀ w : World, (Instr.mapUpdate 66 (.map (some w.heap.size)) (.int .i64 8) (.func (.func 53) #[] #[])).run Tryd.prog (w.alloc (.map (tab 7) 7)) = .ok () (w.alloc (.map (tab 8) 8)) := ins_tab 7 rfl
  have i8 : ∀ w : World, (Instr.mapUpdate 66 (.map (some w.heap.size)) (.int .i64 9) (.func (.func 54) #[] #[])).run Tryd.prog (w.alloc (.map (tab 8) 8)) = .ok () (w.alloc (.map tab9 9)) := ins_tab 8 rfl
  go_enter Tryd.func31, Tryd.ntmps31
  go_wp2
  go_ret
  exact ⟨rfl, rfl⟩
theorem look_tab (w : World) (b : Nat) (n : Nat) (hn : n < 9) (hb : w.heap[b]? = some (.map tab9 9)) :
    (Instr.lookup 66 (.map (some b)) (.int .i64 ((n : Int) + 1)) true).run Tryd.prog w = .ok (.tuple #[.func (.func (46 + n)) #[] #[], .bool true]) w := by
  refine look_run w b tab9 9 _ n _ hb ?_
  rcases n with _ | _ | _ | _ | _ | _ | _ | _ | _ | n
  · rfl
  · rfl
  · rfl
  · rfl
  · rfl
  · rfl
  · rfl
  · rfl
  · rfl
  · omega
theorem look_zero (w : World) (b : Nat) (hb : w.heap[b]? = some (.map tab9 9)) :
    (Instr.lookup 66 (.map (some b)) (.int .i64 0) true).run Tryd.prog w = .ok (.tuple #[.nilFunc, .bool false]) w := look_none w b tab9 9 0 hb rfl
end Go.Proofs.YthklnopfgoekeaaDoor.X
