/- What all the sexp laws ask: the self-test stands. -/
import Derived.Test.YthklnopfgoekeaaDoorX10
namespace Go.Proofs.YthklnopfgoekeaaDoor.X
open Go.RowKit Go.Proofs.YthklnopfgoekeaaDoorW.PrintWords Go.Proofs.YthklnopfgoekeaaDoorW.PrintLast Go.Proofs.YthklnopfgoekeaaDoorW.PrintMore
set_option linter.unusedVariables false
abbrev aliveText : ByteArray := ⟨#[40, 97, 32, 40, 98, 41, 32, 40, 41, 41]⟩
def aliveToks : List S38 := [⟨1, ⟨#[40]⟩, false, 1, 1⟩, ⟨8, ⟨#[97]⟩, false, 1, 2⟩, ⟨1, ⟨#[40]⟩, false, 1, 4⟩, ⟨8, ⟨#[98]⟩, false, 1, 5⟩, ⟨2, ⟨#[41]⟩, false, 1, 6⟩, ⟨1, ⟨#[40]⟩, false, 1, 8⟩, ⟨2, ⟨#[41]⟩, false, 1, 9⟩, ⟨2, ⟨#[41]⟩, false, 1, 10⟩]
def aliveNodes : List S57 := [⟨1, ⟨8, ⟨#[97]⟩, false, 1, 2⟩, []⟩, ⟨1, ⟨8, ⟨#[98]⟩, false, 1, 5⟩, []⟩, ⟨2, ⟨1, ⟨#[40]⟩, false, 1, 4⟩, [1]⟩, ⟨2, ⟨1, ⟨#[40]⟩, false, 1, 8⟩, []⟩, ⟨2, ⟨1, ⟨#[40]⟩, false, 1, 1⟩, [0, 2, 3]⟩]
theorem alive_scan : lexis_Scan.f aliveText = some (aliveToks, 0, 0, 0) := by kernel_rfl
theorem alive_parse : sexp_Parse.f aliveToks = some (aliveNodes, [4], 0, 0, 0) := by kernel_rfl
theorem alive_text : sexp_Text.f 40 aliveNodes 4 = some (aliveText, 0) := by kernel_rfl
theorem alive_depth : sexp_Depth.f 40 aliveNodes 4 = some (2, 0) := by kernel_rfl
theorem alive_list : aliveText.toList = ([40, 97, 32, 40, 98, 41, 32, 40, 41, 41] : List UInt8) := by kernel_rfl
theorem sexp_Text.upto (k j : Nat) {l : List S57} {i : Int} {r : ByteArray × Int} (h : sexp_Text.f k l i = some r) : sexp_Text.f (k + j) l i = some r := by
  induction j with
  | zero => exact h
  | succ j ih => exact sexp_Text.mono l i (k + j) r ih
theorem sexp_Depth.upto (k j : Nat) {l : List S57} {i : Int} {r : Int × Int} (h : sexp_Depth.f k l i = some r) : sexp_Depth.f (k + j) l i = some r := by
  induction j with
  | zero => exact h
  | succ j ih => exact sexp_Depth.mono l i (k + j) r ih
theorem alive_told : tribunallaw07_alive.f 42 = some true := by
  have hr : tribunallaw07_read.f aliveText = some (aliveNodes, [4], 0) := by
    unfold tribunallaw07_read.f
    rw [alive_scan, Option.bind_some, if_pos rfl, alive_parse, Option.bind_some]
  unfold tribunallaw07_alive.f
  rw [hr, Option.bind_some]
  have h1 : (([4] : List Int).length : Int) = 1 := rfl
  have h2 : rd ([4] : List Int) 0 = 4 := rfl
  have h3 : ((aliveNodes.length : Int) != 5) = false := rfl
  dsimp only
  rw [if_pos rfl, if_pos h1, if_pos (by decide), if_pos h2, h3]
  show tribunallaw07_alive.j0 (41 + 1) aliveNodes false = _
  rw [tribunallaw07_alive.j0, if_neg (by decide), sexp_Text.upto 40 1 alive_text, Option.bind_some, sexp_Depth.upto 40 1 alive_depth, Option.bind_some]
  dsimp only
  rw [if_pos rfl, if_pos rfl, if_pos alive_list]
  rfl
theorem alive_more : ∀ n, tribunallaw07_alive.f (42 + n) = some true
  | 0 => alive_told
  | n + 1 => tribunallaw07_alive.mono (42 + n) true (alive_more n)
end Go.Proofs.YthklnopfgoekeaaDoor.X
