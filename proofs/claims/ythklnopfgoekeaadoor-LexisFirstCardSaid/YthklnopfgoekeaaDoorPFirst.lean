/- LexisFirst: behind a byte that begins no token anything may stand; ahead of it a token more changes the column alone: the pure part. -/
import Derived.Test.YthklnopfgoekeaaDoorPStep
import Derived.Test.YthklnopfgoekeaaDoorPAwake
import Derived.Test.YthklnopfgoekeaaDoorX17
namespace Go.Proofs.YthklnopfgoekeaaDoor.X
open Go.RowKit Go.Proofs.YthklnopfgoekeaaDoorW.PrintWords Go.Proofs.YthklnopfgoekeaaDoorW.PrintLast Go.Proofs.YthklnopfgoekeaaDoorW.PrintMore
set_option linter.unusedVariables false
theorem scanAll_60 {s : ByteArray} {m : List S38} {a b : Int} (h : scanAll s = (m, a, b, 60)) : s.size ≤ 1048576 ∧ scanGo s (s.size + 1) 0 1 1 [] = (m, a, b, 60) := by
  unfold scanAll at h
  split at h
  · injection h with _ h; injection h with _ h; injection h with _ h; cases h
  · exact ⟨by omega, h⟩
theorem scan_open (s : ByteArray) (d : Nat) (ts : List S38) : scanGo ((⟨#[40, 32]⟩ : ByteArray) ++ s) (d + 2) 0 1 1 ts = scanGo ((⟨#[40, 32]⟩ : ByteArray) ++ s) d ((⟨#[40, 32]⟩ : ByteArray).size + 0) 1 (shC 1 1) (ts ++ [⟨1, strOf [40], false, 1, 1⟩]) := by
  obtain ⟨p, hp⟩ : ∃ p, p = (⟨#[40, 32]⟩ : ByteArray) := ⟨_, rfl⟩
  have hz := size_app p s
  have hp2 : p.size = 2 := by rw [hp]; rfl
  have hf : from_ (p ++ s) 0 = [40] ++ (32 :: s.data.toList) := by
    unfold from_
    rw [str_app, hp]; rfl
  have hf1 : from_ (p ++ s) 1 = 32 :: s.data.toList := by
    rw [← Nat.zero_add 1, ← from_drop, hf]; rfl
  have r0 : readOne (p ++ s) 0 = ⟨0, some (1, strOf [40], false), 1⟩ := by
    rw [readOne_L, hf]; exact lex_read .opens _ rfl
  have r1 : readOne (p ++ s) 1 = ⟨0, none, 1⟩ := by
    rw [readOne_L, hf1]; exact read1 rfl
  have b0 : bt (p ++ s) ((0 : Nat) : Int) = 40 := by rw [bt_from, hf]; rfl
  have b1 : bt (p ++ s) ((1 : Nat) : Int) = 32 := by rw [bt_from, hf1]; rfl
  rw [← hp, scanGo_more (by omega) (by rw [r0]), r0]
  have e0 : lc (p ++ s) ((0 : Nat) : Int) 1 1 1 = (1, 2) := by
    rw [lc, lc]
    show (if bt (p ++ s) ((0 : Nat) : Int) = 10 then _ else _) = _
    rw [b0]; rfl
  have e1 : lc (p ++ s) ((1 : Nat) : Int) 1 2 1 = (1, 3) := by
    rw [lc, lc]
    show (if bt (p ++ s) ((1 : Nat) : Int) = 10 then _ else _) = _
    rw [b1]; rfl
  show scanGo (p ++ s) (d + 1) 1 (lc (p ++ s) ((0 : Nat) : Int) 1 1 1).1 (lc (p ++ s) ((0 : Nat) : Int) 1 1 1).2 _ = _
  rw [e0]
  show scanGo (p ++ s) (d + 1) 1 1 2 _ = _
  rw [scanGo_more (by omega) (by rw [r1]), r1]
  show scanGo (p ++ s) d 2 (lc (p ++ s) ((1 : Nat) : Int) 1 2 1).1 (lc (p ++ s) ((1 : Nat) : Int) 1 2 1).2 _ = _
  rw [e1, hp2]
  rfl
theorem lexisFirst_pure : tribunallaw06_LexisFirst.Pure := by
  intro a0 a1 h0 h1
  refine ⟨1, ?_⟩
  unfold tribunallaw06_LexisFirst.f
  have hs : ∀ s, lexis_Scan.f s = some (scanAll s) := fun _ => rfl
  obtain ⟨m, a, b, e, hsc⟩ : ∃ m a b e, scanAll a0 = (m, a, b, e) := ⟨_, _, _, _, rfl⟩
  rw [awake_told, Option.bind_some, if_pos rfl, hs, hsc, Option.bind_some]
  by_cases he : e = 60
  · subst he
    rw [if_pos rfl]
    by_cases hz : (a0.size : Int) > 524288
    · rw [if_pos hz, tribunallaw06_LexisFirst.j0, if_pos rfl]
    · rw [if_neg hz]
      by_cases hz1 : (a1.size : Int) > 262144
      · rw [decide_eq_true hz1, tribunallaw06_LexisFirst.j0, if_pos rfl]
      · obtain ⟨hsz, hgo⟩ := scanAll_60 hsc
        have hza := size_app a0 a1
        obtain ⟨p, hp⟩ : ∃ p, p = (⟨#[40, 32]⟩ : ByteArray) := ⟨_, rfl⟩
        have hp2 : p.size = 2 := by rw [hp]; rfl
        have hzp := size_app p a0
        have hA : scanAll (a0 ++ a1) = ([], a, b, 60) := by
          unfold scanAll
          rw [if_neg (by omega)]
          exact scan_app a0 a1 _ 0 1 1 a b [] m (by omega) hgo _ _ (by omega)
        have hB : scanAll (p ++ a0) = ([], a, shC a b, 60) := by
          unfold scanAll
          rw [if_neg (by omega), show (p ++ a0).size + 1 = (a0.size + 1) + 2 by omega]
          have := scan_pre p a0 _ 0 1 1 a b 60 [] m (by omega) (by decide) hgo (by decide) (a0.size + 1) ([] ++ [⟨1, strOf [40], false, 1, 1⟩]) (by omega)
          rw [hp] at this ⊢
          rw [scan_open]
          exact this
        obtain ⟨y, hN⟩ := scan_place a0 _ 0 1 1 a b 60 [] m (by omega) ⟨by omega, by omega, by omega, by omega, by omega, by omega, by omega⟩ hgo (by decide)
        obtain ⟨n1, n2, n3, n4, n5, n6, n7⟩ := hN
        rw [decide_eq_false hz1, tribunallaw06_LexisFirst.j0, if_neg (by decide), if_pos (by omega), hs, hA, Option.bind_some, if_pos (by omega), hs, ← hp, hB, Option.bind_some]
        by_cases hx : a = 1
        · subst hx
          have hw : wrap64 b = b := by unfold wrap64; omega
          simp [shC, hw]
        · simp [shC, hx]
  · rw [if_neg he, tribunallaw06_LexisFirst.j0, if_pos rfl]
end Go.Proofs.YthklnopfgoekeaaDoor.X
