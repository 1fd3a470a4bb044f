/- What all the lexis laws ask: the self-test stands; a line of tokens is the same as itself. -/
import Derived.Test.YthklnopfgoekeaaDoorHJoin
import Derived.Test.YthklnopfgoekeaaDoorX7
import Derived.Test.YthklnopfgoekeaaDoorX6
namespace Go.Proofs.YthklnopfgoekeaaDoor.X
open Go.RowKit Go.Proofs.YthklnopfgoekeaaDoorW.PrintWords Go.Proofs.YthklnopfgoekeaaDoorW.PrintLast Go.Proofs.YthklnopfgoekeaaDoorW.PrintMore
set_option linter.unusedVariables false
theorem scanGo_length (s : ByteArray) : ∀ (d x : Nat) (l c : Int) (ts : List S38), (scanGo s d x l c ts).1.length ≤ ts.length + d
  | 0, _, _, _, ts => by rw [scanGo]; simp
  | d + 1, x, l, c, ts => by
    rw [scanGo]
    split
    · split
      · have h1 := scanGo_length s d (x + (readOne s x).n) (lc s x l c (readOne s x).n).1 (lc s x l c (readOne s x).n).2 ((readOne s x).ts l c ts)
        have h2 := ts_length (readOne s x) l c ts
        omega
      · simp
    · simp
theorem scanAll_length (s : ByteArray) : (scanAll s).1.length ≤ 1048577 := by
  unfold scanAll
  split
  · simp
  · have := scanGo_length s (s.size + 1) 0 1 1 []
    simp only [List.length_nil] at this
    omega
theorem same_from (l : List S38) (b : Bool) (hl : l.length ≤ 1099511627776) : ∀ (n i : Nat), l.length - i ≤ n → tribunalref06_Same.l0 (2 * n + 1) l l b i = some true
  | 0, i, h => by
    rw [show 2 * 0 + 1 = 0 + 1 from rfl, tribunalref06_Same.l0, if_neg (by omega)]
  | n + 1, i, h => by
    by_cases hi : i < l.length
    · have ih := same_from l b hl n (i + 1) (by omega)
      have hw : wrap64 ((i : Int) + 1) = ((i + 1 : Nat) : Int) := by unfold wrap64; omega
      rw [show 2 * (n + 1) + 1 = (2 * n + 2) + 1 by omega, tribunalref06_Same.l0, if_pos (by omega), if_pos (by omega), if_pos (by omega), if_pos rfl, if_pos rfl, bne_self_eq_false]
      rw [show 2 * n + 2 = (2 * n + 1) + 1 by omega, tribunalref06_Same.j1, if_neg (by simp)]
      by_cases hb : b = true
      · rw [if_pos hb, if_pos (by omega), if_pos (by omega), if_pos (by omega), if_pos rfl, if_pos rfl, hw, ih]
      · rw [if_neg hb, hw, ih]
    · rw [show 2 * (n + 1) + 1 = (2 * n + 2) + 1 by omega, tribunalref06_Same.l0, if_neg (by omega)]
/-- A line of tokens is the same as itself. -/
theorem same_self (l : List S38) (b : Bool) (hl : l.length ≤ 1099511627776) : ∃ k, tribunalref06_Same.f k l l b = some true :=
  ⟨2 * l.length + 1, by unfold tribunalref06_Same.f; rw [if_pos rfl]; exact same_from l b hl l.length 0 (by omega)⟩
def awakeText : ByteArray := ⟨#[49, 50, 32, 124, 108, 101, 116, 124]⟩
theorem awake_scan : scanAll awakeText = ([⟨3, ⟨#[49, 50]⟩, false, 1, 1⟩, ⟨8, ⟨#[108, 101, 116]⟩, true, 1, 4⟩], 0, 0, 0) := by
  kernel_rfl
theorem awake_join : lexis_Join.f [⟨3, ⟨#[49, 50]⟩, false, 1, 1⟩, ⟨8, ⟨#[108, 101, 116]⟩, true, 1, 4⟩] = some (awakeText, 0) := by
  kernel_rfl
theorem awake_told : tribunallaw06_awake.f = some true := by
  unfold tribunallaw06_awake.f
  have h : lexis_Scan.f (⟨#[49, 50, 32, 124, 108, 101, 116, 124]⟩ : ByteArray) = some ([⟨3, ⟨#[49, 50]⟩, false, 1, 1⟩, ⟨8, ⟨#[108, 101, 116]⟩, true, 1, 4⟩], 0, 0, 0) := congrArg some awake_scan
  rw [h, Option.bind_some, awake_join, Option.bind_some]
  have h1 : awakeText.toList = ([49, 50, 32, 124, 108, 101, 116, 124] : List UInt8) := by kernel_rfl
  have h2 : (⟨#[108, 101, 116]⟩ : ByteArray).toList = ([108, 101, 116] : List UInt8) := by kernel_rfl
  have h3 : (rd_T38 [(⟨3, ⟨#[49, 50]⟩, false, 1, 1⟩ : S38), ⟨8, ⟨#[108, 101, 116]⟩, true, 1, 4⟩] 1) = ⟨8, ⟨#[108, 101, 116]⟩, true, 1, 4⟩ := rfl
  rw [if_pos rfl, if_pos rfl, if_pos rfl, if_pos (by decide), if_pos (by decide)]
  show (if ((rd_T38 [(⟨3, ⟨#[49, 50]⟩, false, 1, 1⟩ : S38), ⟨8, ⟨#[108, 101, 116]⟩, true, 1, 4⟩] 1).f0 == 8 && _) = true then _ else _) = _
  rw [h3, if_pos (by simp [h2]), if_pos h1]
  rfl
end Go.Proofs.YthklnopfgoekeaaDoor.X
