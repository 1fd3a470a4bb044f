/- What sound, asked, sizes and Text of sexp answer at each table of nodes of moderate size, in plain words. What sizes and Text of sexp answer at each table of nodes of moderate size, in plain words. -/
import Derived.Test.YthklnopfgoekeaaGreatDoorHText
import Derived.Test.YthklnopfgoekeaaGreatDoorPTok
namespace Go.Proofs.YthklnopfgoekeaaGreatDoor.X
section
open Go.RowKit Go.Proofs.YthklnopfgoekeaaGreatDoorW.PrintWords Go.Proofs.YthklnopfgoekeaaGreatDoorW.PrintLast Go.Proofs.YthklnopfgoekeaaGreatDoorW.PrintMore
set_option linter.unusedVariables false
set_option linter.unusedSimpArgs false
def nd (l : List S56) (i : Nat) : S56 := l.getD i z56
theorem rd57_nd (l : List S56) (i : Nat) : rd_T56 l (i : Int) = nd l i := rfl
def okT (t : S37) : Bool := (writeR t.f0 t.f1 t.f2).2 == 0 && !(t.f0 == 1 || t.f0 == 2)
def okK (i : Nat) (k : Int) : Bool := decide (0 ≤ k) && decide (k < (i : Int))
def okN (i : Nat) (n : S56) : Bool := if n.f0 = 1 then okT n.f1 else (n.f0 == 2 && n.f2.all (okK i))
def mark (m : List Bool) : List Int → List Bool
  | [] => m
  | k :: ks => mark (m.set k.toNat true) ks
def markN (m : List Bool) (n : S56) : List Bool := if n.f0 = 1 then m else mark m n.f2
/-- Node i - 1 down to node 0: is what is met sound? -/
def sndGo (l : List S56) : Nat → List Bool → Option (List Bool)
  | 0, m => some m
  | i + 1, m => if m.getD i false = true then (if okN i (nd l i) = true then sndGo l i (markN m (nd l i)) else none) else sndGo l i m
def sndR (o : Option (List Bool)) : List Bool × Bool := match o with
  | some m => (m, true)
  | none => ([], false)
theorem mark_length : ∀ (ks : List Int) (m : List Bool), (mark m ks).length = m.length
  | [], m => rfl
  | k :: ks, m => by rw [mark, mark_length ks, List.length_set]
theorem drop_cons_at {α : Type} {ks : List α} {j : Nat} {a : α} {suf : List α} (h : ks.drop j = a :: suf) : j < ks.length ∧ ks[j]? = some a ∧ ks.drop (j + 1) = suf := by
  have hj : j < ks.length := by
    have := congrArg List.length h
    simp at this
    omega
  refine ⟨hj, ?_, ?_⟩
  · rw [List.drop_eq_getElem_cons hj] at h
    injection h with h1 h2
    rw [List.getElem?_eq_getElem hj, h1]
  · rw [List.drop_eq_getElem_cons hj] at h
    injection h with h1 h2
theorem rd_of {ks : List Int} {j : Nat} {a : Int} (h : ks[j]? = some a) : rd ks (j : Int) = a := by
  unfold rd
  rw [Int.toNat_natCast, List.getD_eq_getElem?_getD, h]
  rfl
theorem wrap_pred (i : Nat) (hi : i ≤ 1099511627776) : wrap64 ((i : Int) - 1) = (i : Int) - 1 := by unfold wrap64; omega
theorem wrap_succ (i : Nat) (hi : i ≤ 1099511627776) : wrap64 ((i : Int) + 1) = ((i + 1 : Nat) : Int) := by unfold wrap64; omega
theorem snd_kids (l : List S56) (i M : Nat) (hi : i < M) (hM : M ≤ 1099511627776) (ks : List Int) (hk : ks.length ≤ 1099511627776)
    (P : ∀ m : List Bool, m.length = M → ∃ k, sexp_sound.l0 k l m ((i : Int) - 1) = some (sndR (sndGo l i m))) :
    ∀ (suf : List Int) (j : Nat) (m : List Bool), ks.drop j = suf → m.length = M → ∃ k, sexp_sound.l1 k l m (i : Int) ks (ks.length : Int) (j : Int) = some (if suf.all (okK i) = true then sndR (sndGo l i (mark m suf)) else ([], false))
  | [], j, m, hd, hm => by
    have hj : ks.length ≤ j := by
      have := congrArg List.length hd
      simp at this
      omega
    obtain ⟨k, h⟩ := P m hm
    refine ⟨k + 1, ?_⟩
    rw [sexp_sound.l1, if_neg (by omega), wrap_pred i (by omega), h]
    rfl
  | a :: suf, j, m, hd, hm => by
    obtain ⟨hj, ha, hd'⟩ := drop_cons_at hd
    have hr := rd_of ha
    by_cases h0 : a < 0
    · refine ⟨1, ?_⟩
      rw [sexp_sound.l1, if_pos (by omega), if_pos (by omega), if_pos (by omega), hr, if_pos h0, if_neg]
      simp [okK]
      omega
    · by_cases h1 : a ≥ (i : Int)
      · refine ⟨1, ?_⟩
        rw [sexp_sound.l1, if_pos (by omega), if_pos (by omega), if_pos (by omega), hr, if_neg h0, if_pos h1, if_neg]
        simp [okK]
        omega
      · obtain ⟨k, h⟩ := snd_kids l i M hi hM ks hk P suf (j + 1) (m.set a.toNat true) hd' (by rw [List.length_set, hm])
        refine ⟨k + 1, ?_⟩
        have e : (a :: suf).all (okK i) = suf.all (okK i) := by
          rw [List.all_cons, okK, decide_eq_true (show 0 ≤ a by omega), decide_eq_true (show a < (i : Int) by omega), Bool.and_self, Bool.true_and]
        rw [sexp_sound.l1, if_pos (by omega), if_pos (by omega), if_pos (by omega), hr, if_neg h0, if_neg h1, if_pos (by omega), if_pos (by omega), wrap_succ j (by omega), h, e]
        rfl
/-- Tables of moderate size. -/
structure Mod (l : List S56) : Prop where
  n : l.length ≤ 1099511627776
  t : ∀ i, (nd l i).f1.f1.size ≤ 1099511627776
  k : ∀ i, (nd l i).f2.length ≤ 1099511627776
theorem write_f {l : List S56} (h : Mod l) (i : Nat) (c d : Int) : lexis_Write.f (nd l i).f1.f0 (nd l i).f1.f1 (nd l i).f1.f2 c d = some (writeR (nd l i).f1.f0 (nd l i).f1.f1 (nd l i).f1.f2) := by
  unfold lexis_Write.f
  rw [if_pos (h.t i)]
theorem paren_f (t : S37) (x : ByteArray) (b : Bool) (c d : Int) : sexp_paren.f t.f0 x b c d = some (t.f0 == 1 || t.f0 == 2) := by
  unfold sexp_paren.f
  by_cases h : t.f0 = 1
  · rw [if_pos h, h]; rfl
  · rw [if_neg h, beq_eq_false_iff_ne.2 h, Bool.false_or]
theorem rdOf_nat (m : List Bool) (i : Nat) : rdOf false m (i : Int) = m.getD i false := rfl
theorem snd_told (l : List S56) (hl : Mod l) (M : Nat) (hM : M ≤ l.length) : ∀ (i : Nat), i ≤ M → ∀ m : List Bool, m.length = M → ∃ k, sexp_sound.l0 k l m ((i : Int) - 1) = some (sndR (sndGo l i m))
  | 0, _, m, hm => ⟨1, by rw [sexp_sound.l0, if_neg (by omega)]; rfl⟩
  | i + 1, hi, m, hm => by
    have hn := hl.n
    have e : (((i + 1 : Nat) : Int) - 1) = (i : Int) := by omega
    rw [e]
    have P := snd_told l hl M hM i (by omega)
    by_cases hmet : m.getD i false = true
    · by_cases h1 : (nd l i).f0 = 1
      · rcases hw : (writeR (nd l i).f1.f0 (nd l i).f1.f1 (nd l i).f1.f2) with ⟨x, f⟩
        by_cases hf : f = 0
        · by_cases hp : ((nd l i).f1.f0 == 1 || (nd l i).f1.f0 == 2) = true
          · refine ⟨1, ?_⟩
            rw [sexp_sound.l0, if_pos (by omega), if_pos (by omega), if_pos (by omega), rdOf_nat, if_pos hmet, if_pos (by omega), rd57_nd, if_pos h1, write_f hl, hw, Option.bind_some, if_pos hf, paren_f, Option.bind_some, if_pos hp, sndGo, if_pos hmet, if_neg]
            · rfl
            · rw [okN, if_pos h1, okT, hp]; simp
          · obtain ⟨k, h⟩ := P m hm
            refine ⟨k + 1, ?_⟩
            rw [sexp_sound.l0, if_pos (by omega), if_pos (by omega), if_pos (by omega), rdOf_nat, if_pos hmet, if_pos (by omega), rd57_nd, if_pos h1, write_f hl, hw, Option.bind_some, if_pos hf, paren_f, Option.bind_some, if_neg hp, wrap_pred i (by omega), h, sndGo, if_pos hmet, if_pos, markN, if_pos h1]
            rw [okN, if_pos h1, okT, hw, Bool.eq_false_iff.2 hp]
            simp [hf]
        · refine ⟨1, ?_⟩
          rw [sexp_sound.l0, if_pos (by omega), if_pos (by omega), if_pos (by omega), rdOf_nat, if_pos hmet, if_pos (by omega), rd57_nd, if_pos h1, write_f hl, hw, Option.bind_some, if_neg hf, sndGo, if_pos hmet, if_neg]
          · rfl
          · rw [okN, if_pos h1, okT, hw]; simp [hf]
      · by_cases h2 : (nd l i).f0 = 2
        · obtain ⟨k, h⟩ := snd_kids l i M (by omega) (by omega) (nd l i).f2 (hl.k i) P (nd l i).f2 0 m rfl hm
          refine ⟨k + 1, ?_⟩
          have h : sexp_sound.l1 k l m (i : Int) (nd l i).f2 ((nd l i).f2.length : Int) 0 = _ := h
          rw [sexp_sound.l0, if_pos (by omega), if_pos (by omega), if_pos (by omega), rdOf_nat, if_pos hmet, if_pos (by omega), rd57_nd, if_neg h1, if_pos h2, h, sndGo, if_pos hmet, okN, if_neg h1, markN, if_neg h1, beq_iff_eq.2 h2, Bool.true_and]
          split
          · rfl
          · rfl
        · refine ⟨1, ?_⟩
          rw [sexp_sound.l0, if_pos (by omega), if_pos (by omega), if_pos (by omega), rdOf_nat, if_pos hmet, if_pos (by omega), rd57_nd, if_neg h1, if_neg h2, sndGo, if_pos hmet, if_neg]
          · rfl
          · rw [okN, if_neg h1, beq_eq_false_iff_ne.2 h2]; simp
    · obtain ⟨k, h⟩ := P m hm
      refine ⟨k + 1, ?_⟩
      rw [sexp_sound.l0, if_pos (by omega), if_pos (by omega), if_pos (by omega), rdOf_nat, if_neg hmet, wrap_pred i (by omega), h, sndGo, if_neg hmet]
/-- The root alone is met. -/
def met0 (i : Nat) : List Bool := (List.replicate (i + 1) false).set i true
/-- What asked tells. -/
def askR (l : List S56) (i : Int) : List Bool × Int := if i < 0 ∨ (l.length : Int) ≤ i then ([], 1) else match sndGo l (i.toNat + 1) (met0 i.toNat) with
  | some m => (m, 0)
  | none => ([], 73)
theorem asked_told (l : List S56) (hl : Mod l) (i : Int) : ∃ k, sexp_asked.f k l i = some (askR l i) := by
  have hn := hl.n
  by_cases h0 : i < 0
  · refine ⟨1, ?_⟩
    unfold sexp_asked.f askR
    rw [if_pos h0, if_pos (.inl h0), sexp_asked.j0, if_pos rfl]
  · by_cases h1 : (l.length : Int) ≤ i
    · refine ⟨1, ?_⟩
      unfold sexp_asked.f askR
      rw [if_neg h0, if_pos (.inr h1), sexp_asked.j0, if_pos (decide_eq_true h1)]
    · obtain ⟨n, rfl⟩ : ∃ n : Nat, i = (n : Int) := ⟨i.toNat, by omega⟩
      obtain ⟨k, h⟩ := snd_told l hl (n + 1) (by omega) (n + 1) (Nat.le_refl _) (met0 n) (by simp [met0])
      refine ⟨k + 1, ?_⟩
      have e : (((n + 1 : Nat) : Int) - 1) = (n : Int) := by omega
      rw [e] at h
      have hs : sexp_sound.f k l (n : Int) = some (sndR (sndGo l (n + 1) (met0 n))) := by
        unfold sexp_sound.f
        rw [wrap_succ n (by omega), if_pos (by omega), Int.toNat_natCast, if_pos (by omega), Option.bind_some, if_pos (by omega), if_pos (by rw [List.length_replicate]; omega)]
        exact h
      unfold sexp_asked.f askR
      rw [if_neg h0, if_neg (by omega), decide_eq_false (show ¬ (n : Int) ≥ (l.length : Int) by omega), sexp_asked.j0, if_neg (by decide), hs, Option.bind_some, Int.toNat_natCast]
      cases sndGo l (n + 1) (met0 n) <;> rfl
/-- A set of nodes that holds what its lists name. -/
structure Clo (l : List S56) (m : List Bool) (N : Nat) : Prop where
  ok : ∀ i, i < N → m.getD i false = true → okN i (nd l i) = true
  kid : ∀ i, i < N → m.getD i false = true → (nd l i).f0 ≠ 1 → ∀ k ∈ (nd l i).f2, m.getD k.toNat false = true
theorem getD_set (m : List Bool) (i j : Nat) (hi : i < m.length) : (m.set i true).getD j false = (if i = j then true else m.getD j false) := by
  rw [List.getD_eq_getElem?_getD, List.getD_eq_getElem?_getD, List.getElem?_set]
  split
  · rename_i h
    subst h
    simp [hi]
  · rfl
theorem mark_get : ∀ (ks : List Int) (m : List Bool) (i : Nat), i ≤ m.length → ks.all (okK i) = true → (∀ j, m.getD j false = true → (mark m ks).getD j false = true) ∧ (∀ j, i ≤ j → (mark m ks).getD j false = m.getD j false) ∧ (∀ k ∈ ks, (mark m ks).getD k.toNat false = true)
  | [], m, i, hi, h => ⟨fun j hj => hj, fun j hj => rfl, fun k hk => by cases hk⟩
  | a :: ks, m, i, hi, h => by
    rw [List.all_cons, Bool.and_eq_true] at h
    have ha := h.1
    simp only [okK, Bool.and_eq_true, decide_eq_true_eq] at ha
    obtain ⟨h1, h2, h3⟩ := mark_get ks (m.set a.toNat true) i (by rw [List.length_set]; exact hi) h.2
    have hg := fun j => getD_set m a.toNat j (by omega)
    refine ⟨fun j hj => h1 j ?_, fun j hj => ?_, fun k hk => ?_⟩
    · rw [hg]; split
      · rfl
      · exact hj
    · rw [mark, h2 j hj, hg, if_neg (by omega)]
    · rcases List.mem_cons.1 hk with rfl | hk
      · refine h1 _ ?_
        rw [hg, if_pos rfl]
      · exact h3 k hk
theorem markN_get {m : List Bool} {n : S56} {i : Nat} (hi : i ≤ m.length) (h : okN i n = true) : (markN m n).length = m.length ∧ (∀ j, m.getD j false = true → (markN m n).getD j false = true) ∧ (∀ j, i ≤ j → (markN m n).getD j false = m.getD j false) ∧ (n.f0 ≠ 1 → ∀ k ∈ n.f2, (markN m n).getD k.toNat false = true) := by
  unfold markN
  by_cases h1 : n.f0 = 1
  · rw [if_pos h1]
    exact ⟨rfl, fun j hj => hj, fun j _ => rfl, fun h => absurd h1 h⟩
  · rw [okN, if_neg h1, Bool.and_eq_true] at h
    rw [if_neg h1]
    obtain ⟨a, b, c⟩ := mark_get n.f2 m i hi h.2
    exact ⟨mark_length _ _, a, b, fun _ => c⟩
theorem sndGo_clo (l : List S56) : ∀ (i : Nat) (m m' : List Bool), i ≤ m.length → sndGo l i m = some m' → m'.length = m.length ∧ (∀ j, m.getD j false = true → m'.getD j false = true) ∧ (∀ j, i ≤ j → m'.getD j false = m.getD j false) ∧ Clo l m' i
  | 0, m, m', _, h => by
    rw [sndGo] at h
    injection h with h
    subst h
    exact ⟨rfl, fun j hj => hj, fun j _ => rfl, ⟨fun i hi => absurd hi (by omega), fun i hi => absurd hi (by omega)⟩⟩
  | i + 1, m, m', hi, h => by
    rw [sndGo] at h
    split at h
    · rename_i hmet
      split at h
      · rename_i hok
        obtain ⟨g1, g2, g3, g4⟩ := markN_get (m := m) (by omega) hok
        obtain ⟨h1, h2, h3, h4⟩ := sndGo_clo l i _ m' (by omega) h
        refine ⟨h1.trans g1, fun j hj => h2 j (g2 j hj), fun j hj => (h3 j (by omega)).trans (g3 j (by omega)), ⟨fun j hj hm => ?_, fun j hj hm hne k hk => ?_⟩⟩
        · rcases Nat.lt_or_ge j i with hlt | hge
          · exact h4.ok j hlt hm
          · obtain rfl : j = i := by omega
            exact hok
        · rcases Nat.lt_or_ge j i with hlt | hge
          · exact h4.kid j hlt hm hne k hk
          · obtain rfl : j = i := by omega
            exact h2 _ (g4 hne k hk)
      · cases h
    · rename_i hmet
      obtain ⟨h1, h2, h3, h4⟩ := sndGo_clo l i m m' (by omega) h
      have hmi : ¬ m'.getD i false = true := by rw [h3 i (Nat.le_refl _)]; exact hmet
      refine ⟨h1, h2, fun j hj => h3 j (by omega), ⟨fun j hj hm => ?_, fun j hj hm hne k hk => ?_⟩⟩
      · rcases Nat.lt_or_ge j i with hlt | hge
        · exact h4.ok j hlt hm
        · obtain rfl : j = i := by omega
          exact absurd hm hmi
      · rcases Nat.lt_or_ge j i with hlt | hge
        · exact h4.kid j hlt hm hne k hk
        · obtain rfl : j = i := by omega
          exact absurd hm hmi
theorem ok_kids {i : Nat} {n : S56} (h : okN i n = true) (h1 : n.f0 ≠ 1) : n.f0 = 2 ∧ ∀ k ∈ n.f2, 0 ≤ k ∧ k < (i : Int) := by
  rw [okN, if_neg h1, Bool.and_eq_true] at h
  refine ⟨by simpa using h.1, fun k hk => ?_⟩
  have := List.all_eq_true.1 h.2 k hk
  simpa [okK] using this
theorem kidsL_congr {f g : Int → List UInt8} : ∀ (ks : List Int) (b : Bool), (∀ k ∈ ks, f k = g k) → kidsL f b ks = kidsL g b ks
  | [], b, _ => rfl
  | k :: ks, b, h => by rw [kidsL, kidsL, h k (List.mem_cons_self ..), kidsL_congr ks false (fun k hk => h k (List.mem_cons_of_mem _ hk))]
/-- A node's text does not ask how deep one looks. -/
def txN (l : List S56) (i : Nat) : List UInt8 := sxL l (i + 1) (i : Int)
theorem sx_deep {l : List S56} {m : List Bool} {N : Nat} (h : Clo l m N) : ∀ (i : Nat), i < N → m.getD i false = true → ∀ d, i < d → sxL l d (i : Int) = txN l i := by
  intro i
  induction i using Nat.strongRecOn with
  | _ i ih =>
    intro hi hm d hd
    obtain ⟨d, rfl⟩ : ∃ e, d = e + 1 := ⟨d - 1, by omega⟩
    rw [txN, sxL, sxL, rd57_nd]
    by_cases h1 : (nd l i).f0 = 1
    · rw [if_pos h1, if_pos h1]
    · obtain ⟨_, hk⟩ := ok_kids (h.ok i hi hm) h1
      rw [if_neg h1, if_neg h1, kidsL_congr]
      intro k hkm
      have hk1 := hk k hkm
      have hk2 := h.kid i hi hm h1 k hkm
      obtain ⟨n, rfl⟩ : ∃ n : Nat, k = (n : Int) := ⟨k.toNat, by omega⟩
      rw [Int.toNat_natCast] at hk2
      rw [ih n (by omega) (by omega) hk2 d (by omega), ih n (by omega) (by omega) hk2 i (by omega)]
theorem tx_atom {l : List S56} {i : Nat} (h1 : (nd l i).f0 = 1) : txN l i = (writeR (nd l i).f1.f0 (nd l i).f1.f1 (nd l i).f1.f2).1.data.toList := by
  rw [txN, sxL, rd57_nd, if_pos h1]
theorem tx_list {l : List S56} {m : List Bool} {N : Nat} (h : Clo l m N) {i : Nat} (hi : i < N) (hm : m.getD i false = true) (h1 : (nd l i).f0 ≠ 1) : txN l i = 40 :: (kidsL (fun k => txN l k.toNat) true (nd l i).f2 ++ [41]) := by
  obtain ⟨_, hk⟩ := ok_kids (h.ok i hi hm) h1
  rw [txN, sxL, rd57_nd, if_neg h1, kidsL_congr]
  intro k hkm
  have hk1 := hk k hkm
  have hk2 := h.kid i hi hm h1 k hkm
  obtain ⟨n, rfl⟩ : ∃ n : Nat, k = (n : Int) := ⟨k.toNat, by omega⟩
  rw [Int.toNat_natCast] at hk2 ⊢
  exact sx_deep h n (by omega) hk2 i (by omega)
theorem snd_deep {l : List S56} (hl : Mod l) {m : List Bool} {N : Nat} (hN : N ≤ l.length) (h : Clo l m N) : ∀ (i : Nat), i < N → m.getD i false = true → ∀ d, i < d → sndL l d (i : Int) = true := by
  intro i
  induction i using Nat.strongRecOn with
  | _ i ih =>
    intro hi hm d hd
    obtain ⟨d, rfl⟩ : ∃ e, d = e + 1 := ⟨d - 1, by omega⟩
    rw [sndL, rd57_nd, decide_eq_true (show (0 : Int) ≤ (i : Int) by omega), decide_eq_true (show (i : Int) < (l.length : Int) by omega), Bool.true_and, Bool.true_and]
    by_cases h1 : (nd l i).f0 = 1
    · rw [if_pos h1]
      exact decide_eq_true (hl.t i)
    · obtain ⟨_, hk⟩ := ok_kids (h.ok i hi hm) h1
      rw [if_neg h1, List.all_eq_true]
      intro k hkm
      have hk1 := hk k hkm
      have hk2 := h.kid i hi hm h1 k hkm
      obtain ⟨n, rfl⟩ : ∃ n : Nat, k = (n : Int) := ⟨k.toNat, by omega⟩
      rw [Int.toNat_natCast] at hk2
      exact ih n (by omega) (by omega) hk2 d (by omega)
end
section
open Go.RowKit Go.Proofs.YthklnopfgoekeaaGreatDoorW.PrintWords Go.Proofs.YthklnopfgoekeaaGreatDoorW.PrintLast Go.Proofs.YthklnopfgoekeaaGreatDoorW.PrintMore
set_option linter.unusedVariables false
set_option linter.unusedSimpArgs false
theorem mn_min (a b : Int) : mn a b = min a b := by
  unfold mn
  split <;> omega
theorem mx_max (a b : Int) : mx a b = max a b := by
  unfold mx
  split <;> omega
theorem rd_nat' (l : List Int) (i : Nat) : rd l (i : Int) = l.getD i 0 := rfl
theorem rd_set (out : List Int) (i j : Nat) (x : Int) (hi : i < out.length) : rd (out.set i x) (j : Int) = if i = j then x else rd out (j : Int) := by
  rw [rd_nat', rd_nat', List.getD_eq_getElem?_getD, List.getD_eq_getElem?_getD, List.getElem?_set]
  split
  · rename_i h
    subst h
    simp [hi]
  · rfl
/-- The size of a list, kid by kid. -/
def fsz (f : Int → Int) : Int → List Int → Int
  | x, [] => x
  | x, k :: ks => fsz f (min (x + f k) 1048577) ks
theorem sz_kids (l : List S56) (met : List Bool) (i M : Nat) (hi : i < M) (hM : M ≤ 1099511627776) (out : List Int) (ho : out.length = M) (hb : ∀ q : Nat, 0 ≤ rd out (q : Int) ∧ rd out (q : Int) ≤ 1048577) (ks : List Int) (hk : ks.length ≤ 1099511627776) (hin : ∀ k ∈ ks, 0 ≤ k ∧ k < (i : Int)) (r : List Int) :
    ∀ (suf : List Int) (j : Nat) (x : Int), ks.drop j = suf → 0 ≤ x → x ≤ 1125899906842624 → (∃ k, sexp_sizes.l0 k l (out.set i (fsz (fun k => rd out k) x suf)) met (M : Int) ((i + 1 : Nat) : Int) = some r) →
      ∃ k, sexp_sizes.l1 k l (out.set i x) (i : Int) met (M : Int) (i : Int) ks (ks.length : Int) (j : Int) = some r
  | [], j, x, hd, hx, hx2, P => by
    have hj : ks.length ≤ j := by
      have := congrArg List.length hd
      simp at this
      omega
    obtain ⟨k, h⟩ := P
    refine ⟨k + 1, ?_⟩
    rw [sexp_sizes.l1, if_neg (by omega), wrap_succ i (by omega)]
    exact h
  | a :: suf, j, x, hd, hx, hx2, P => by
    obtain ⟨hj, ha, hd'⟩ := drop_cons_at hd
    have hr := rd_of ha
    have hia := hin a (List.mem_of_getElem? ha)
    obtain ⟨q, rfl⟩ : ∃ q : Nat, a = (q : Int) := ⟨a.toNat, by omega⟩
    have hq := hb q
    obtain ⟨k, h⟩ := sz_kids l met i M hi hM out ho hb ks hk hin r suf (j + 1) (min (x + rd out (q : Int)) 1048577) hd' (by omega) (by omega) P
    refine ⟨k + 1, ?_⟩
    have hw : wrap64 (x + rd out (q : Int)) = x + rd out (q : Int) := by unfold wrap64; omega
    rw [sexp_sizes.l1, if_pos (by omega), if_pos (by omega), if_pos (by omega), if_pos (by omega), if_pos (by rw [List.length_set]; omega), hr, if_pos (by omega), if_pos (by rw [List.length_set]; omega), wrap_succ j (by omega), mn_min, rd_set out i i x (by omega), if_pos rfl, rd_set out i q x (by omega), if_neg (by omega), hw, Int.toNat_natCast, List.set_set]
    exact h
/-- The bytes of node i's text, at most 1048577. -/
def szI (l : List S56) (i : Nat) : Int := min ((txN l i).length : Int) 1048577
theorem write_len {k : Int} {t : ByteArray} {q : Bool} (h : (writeR k t q).2 = 0) : (writeR k t q).1.size ≤ 1048576 := by
  obtain ⟨t', h1, h2, h3, h4⟩ := write_back (k := k) (tx := t) (q := q) (r := (writeR k t q).1) (by rw [← h])
  rw [h4]
  simpa [strOf, ByteArray.size] using h3
theorem szI_atom {l : List S56} {i : Nat} (h1 : (nd l i).f0 = 1) (hok : okN i (nd l i) = true) : szI l i = ((writeR (nd l i).f1.f0 (nd l i).f1.f1 (nd l i).f1.f2).1.size : Int) := by
  rw [okN, if_pos h1, okT, Bool.and_eq_true] at hok
  have := write_len (k := (nd l i).f1.f0) (t := (nd l i).f1.f1) (q := (nd l i).f1.f2) (by simpa using hok.1)
  unfold szI
  rw [tx_atom h1]
  have e : ((writeR (nd l i).f1.f0 (nd l i).f1.f1 (nd l i).f1.f2).1.data.toList).length = (writeR (nd l i).f1.f0 (nd l i).f1.f1 (nd l i).f1.f2).1.size := by simp
  rw [e]
  omega
def sumL (f : Int → Nat) : List Int → Nat
  | [] => 0
  | k :: ks => f k + sumL f ks
theorem kidsL_len (f : Int → List UInt8) : ∀ (ks : List Int) (b : Bool), (kidsL f b ks).length = sumL (fun k => (f k).length) ks + (if b = true then ks.length - 1 else ks.length)
  | [], b => by simp [kidsL, sumL]
  | k :: ks, b => by
    rw [kidsL, List.length_append, List.length_append, kidsL_len f ks false, sumL]
    cases b <;> simp <;> omega
theorem fsz_min (f : Int → Int) (L : Int → Nat) : ∀ (ks : List Int) (y : Int), 0 ≤ y → (∀ k ∈ ks, f k = min (L k : Int) 1048577) → fsz f (min y 1048577) ks = min (y + (sumL L ks : Int)) 1048577
  | [], y, hy, h => by rw [fsz, sumL]; simp
  | k :: ks, y, hy, h => by
    have hk := h k (List.mem_cons_self ..)
    have e : min (min y 1048577 + f k) 1048577 = min (y + (L k : Int)) 1048577 := by rw [hk]; omega
    rw [fsz, e, fsz_min f L ks _ (by omega) (fun k hk => h k (List.mem_cons_of_mem _ hk)), sumL]
    omega
theorem fsz_list (f : Int → Int) (L : Int → Nat) (ks : List Int) (h : ∀ k ∈ ks, f k = min (L k : Int) 1048577) : fsz f (2 + max 0 ((ks.length : Int) - 1)) ks = min (((2 + (sumL L ks + (ks.length - 1)) : Nat)) : Int) 1048577 := by
  cases ks with
  | nil => rw [fsz, sumL]; rfl
  | cons k ks =>
    have hk := h k (List.mem_cons_self ..)
    have e : min (2 + max 0 (((k :: ks).length : Int) - 1) + f k) 1048577 = min (2 + max 0 (((k :: ks).length : Int) - 1) + (L k : Int)) 1048577 := by rw [hk]; omega
    rw [fsz, e, fsz_min f L ks _ (by omega) (fun k hk => h k (List.mem_cons_of_mem _ hk)), sumL]
    simp only [List.length_cons]
    omega
theorem szI_list {l : List S56} {m : List Bool} {N : Nat} (h : Clo l m N) {i : Nat} (hi : i < N) (hm : m.getD i false = true) (h1 : (nd l i).f0 ≠ 1) (f : Int → Int) (hf : ∀ k ∈ (nd l i).f2, f k = szI l k.toNat) : fsz f (2 + max 0 (((nd l i).f2.length : Int) - 1)) (nd l i).f2 = szI l i := by
  rw [fsz_list f (fun k => (txN l k.toNat).length) _ hf, szI, tx_list h hi hm h1, List.length_cons, List.length_append, kidsL_len, List.length_singleton]
  simp only [if_true]
  congr 1
  omega
theorem sz_told (l : List S56) (hl : Mod l) (met : List Bool) (M : Nat) (hm : met.length = M) (hM : M ≤ l.length) (hc : Clo l met M) : ∀ (d i : Nat) (out : List Int), M - i ≤ d → i ≤ M → out.length = M → (∀ q : Nat, 0 ≤ rd out (q : Int) ∧ rd out (q : Int) ≤ 1048577) → (∀ q : Nat, q < i → met.getD q false = true → rd out (q : Int) = szI l q) →
    ∃ k r, sexp_sizes.l0 k l out met (M : Int) (i : Int) = some r ∧ r.length = M ∧ ∀ q : Nat, q < M → met.getD q false = true → rd r (q : Int) = szI l q
  | 0, i, out, hd, hi, ho, hb, hp => ⟨1, out, by rw [sexp_sizes.l0, if_neg (by omega)], ho, fun q hq => hp q (by omega)⟩
  | d + 1, i, out, hd, hi, ho, hb, hp => by
    have hn := hl.n
    rcases Nat.lt_or_ge i M with hlt | hge
    · by_cases hmet : met.getD i false = true
      · have hok := hc.ok i hlt hmet
        have hset : ∀ x : Int, 0 ≤ x → x ≤ 1048577 → x = szI l i → (∀ q : Nat, 0 ≤ rd (out.set i x) (q : Int) ∧ rd (out.set i x) (q : Int) ≤ 1048577) ∧ (∀ q : Nat, q < i + 1 → met.getD q false = true → rd (out.set i x) (q : Int) = szI l q) := by
          intro x h0 h1 hx
          refine ⟨fun q => ?_, fun q hq hqm => ?_⟩
          · rw [rd_set out i q x (by omega)]
            split
            · exact ⟨h0, h1⟩
            · exact hb q
          · rw [rd_set out i q x (by omega)]
            split
            · rename_i h
              rw [← h]
              exact hx
            · exact hp q (by omega) hqm
        have hs1 : 0 ≤ szI l i ∧ szI l i ≤ 1048577 := by unfold szI; omega
        by_cases h1 : (nd l i).f0 = 1
        · have hsz := szI_atom h1 hok
          have hS := hset _ (by omega) (by omega) hsz.symm
          obtain ⟨k, r, h, h'⟩ := sz_told l hl met M hm hM hc d (i + 1) _ (by omega) (by omega) (by rw [List.length_set]; exact ho) hS.1 hS.2
          refine ⟨k + 1, r, ?_, h'⟩
          rw [sexp_sizes.l0, if_pos (by omega), if_pos (by omega), if_pos (by omega), rdOf_nat, if_pos hmet, if_pos (by omega), rd57_nd, if_pos h1, write_f hl, Option.bind_some, if_pos (by omega), wrap_succ i (by omega), Int.toNat_natCast]
          exact h
        · obtain ⟨_, hk⟩ := ok_kids hok h1
          have hkl := hl.k i
          have hfs : fsz (fun k => rd out k) (2 + max 0 (((nd l i).f2.length : Int) - 1)) (nd l i).f2 = szI l i := szI_list hc hlt hmet h1 _ (fun k hkm => by
            have hk1 := hk k hkm
            have hk2 := hc.kid i hlt hmet h1 k hkm
            obtain ⟨n, rfl⟩ : ∃ n : Nat, k = (n : Int) := ⟨k.toNat, by omega⟩
            rw [Int.toNat_natCast] at hk2 ⊢
            exact hp n (by omega) hk2)
          have hS := hset _ hs1.1 hs1.2 rfl
          obtain ⟨k, r, h, h'⟩ := sz_told l hl met M hm hM hc d (i + 1) _ (by omega) (by omega) (by rw [List.length_set]; exact ho) hS.1 hS.2
          obtain ⟨k2, h2⟩ := sz_kids l met i M hlt (by omega) out ho hb (nd l i).f2 hkl hk r (nd l i).f2 0 (2 + max 0 (((nd l i).f2.length : Int) - 1)) rfl (by omega) (by omega) ⟨k, by rw [hfs]; exact h⟩
          refine ⟨k2 + 1, r, ?_, h'⟩
          have hw : wrap64 (2 + mx 0 (wrap64 (((nd l i).f2.length : Int) - 1))) = 2 + max 0 (((nd l i).f2.length : Int) - 1) := by
            rw [mx_max]
            have : wrap64 (((nd l i).f2.length : Int) - 1) = ((nd l i).f2.length : Int) - 1 := by unfold wrap64; omega
            rw [this]
            unfold wrap64
            omega
          rw [sexp_sizes.l0, if_pos (by omega), if_pos (by omega), if_pos (by omega), rdOf_nat, if_pos hmet, if_pos (by omega), rd57_nd, if_neg h1, if_pos (by omega), hw, Int.toNat_natCast]
          exact h2
      · obtain ⟨k, r, h, h'⟩ := sz_told l hl met M hm hM hc d (i + 1) out (by omega) (by omega) ho hb (fun q hq hqm => by
          rcases Nat.lt_or_ge q i with h | h
          · exact hp q h hqm
          · obtain rfl : q = i := by omega
            exact absurd hqm hmet)
        refine ⟨k + 1, r, ?_, h'⟩
        rw [sexp_sizes.l0, if_pos (by omega), if_pos (by omega), if_pos (by omega), rdOf_nat, if_neg hmet, wrap_succ i (by omega)]
        exact h
    · exact ⟨1, out, by rw [sexp_sizes.l0, if_neg (by omega)], ho, fun q hq => hp q (by omega)⟩
/-- What Text tells. -/
def textS (l : List S56) (i : Int) : ByteArray × Int := if (askR l i).2 = 0 then (if 1048576 < (txN l i.toNat).length then (⟨#[]⟩, 2) else (strOf (txN l i.toNat), 0)) else (⟨#[]⟩, (askR l i).2)
theorem ask_ok {l : List S56} {i : Int} (h : (askR l i).2 = 0) : 0 ≤ i ∧ i < (l.length : Int) ∧ (askR l i).1.length = i.toNat + 1 ∧ (askR l i).1.getD i.toNat false = true ∧ Clo l (askR l i).1 (i.toNat + 1) := by
  unfold askR at h ⊢
  split at h
  · exact absurd h (by decide)
  · rename_i hr
    rw [if_neg hr]
    split at h
    · rename_i m hm
      obtain ⟨h1, h2, h3, h4⟩ := sndGo_clo l (i.toNat + 1) (met0 i.toNat) m (by simp [met0]) hm
      refine ⟨by omega, by omega, by rw [h1]; simp [met0], h2 _ ?_, h4⟩
      rw [met0, getD_set _ _ _ (by rw [List.length_replicate]; omega), if_pos rfl]
    · exact absurd h (by decide)
theorem askR_eta (l : List S56) (i : Int) : askR l i = ((askR l i).1, (askR l i).2) := rfl
theorem sizes_f (l : List S56) (hl : Mod l) (i : Int) (h : (askR l i).2 = 0) : ∃ k r, sexp_sizes.f k l (askR l i).1 = some r ∧ r.length = i.toNat + 1 ∧ rd r i = szI l i.toNat := by
  obtain ⟨h0, h1, h2, h3, h4⟩ := ask_ok h
  have hn := hl.n
  obtain ⟨k, r, hk, hr, hq⟩ := sz_told l hl (askR l i).1 (i.toNat + 1) h2 (by omega) h4 (i.toNat + 1) 0 (List.replicate (i.toNat + 1) 0) (by omega) (by omega) (by rw [List.length_replicate]) (fun q => by
    rw [rd_nat', List.getD_eq_getElem?_getD, List.getElem?_replicate]
    split <;> simp) (fun q hq => absurd hq (by omega))
  refine ⟨k, r, ?_, hr, ?_⟩
  · unfold sexp_sizes.f
    rw [h2, if_pos (by omega), Int.toNat_natCast, if_pos (by omega)]
    exact hk
  · have := hq i.toNat (by omega) h3
    rwa [Int.toNat_of_nonneg h0] at this
theorem sexp_asked.more {l : List S56} {i : Int} {k : Nat} {r : List Bool × Int} (h : sexp_asked.f k l i = some r) : ∀ j, sexp_asked.f (k + j) l i = some r
  | 0 => h
  | j + 1 => sexp_asked.mono l i (k + j) r (sexp_asked.more h j)
theorem sexp_sizes.more {l : List S56} {m : List Bool} {k : Nat} {r : List Int} (h : sexp_sizes.f k l m = some r) : ∀ j, sexp_sizes.f (k + j) l m = some r
  | 0 => h
  | j + 1 => sexp_sizes.mono l m (k + j) r (sexp_sizes.more h j)
theorem text_told (l : List S56) (hl : Mod l) (i : Int) : ∃ k, sexp_Text.f k l i = some (textS l i) := by
  obtain ⟨k1, h1⟩ := asked_told l hl i
  by_cases h : (askR l i).2 = 0
  · obtain ⟨k2, r, h2, hr, hz⟩ := sizes_f l hl i h
    obtain ⟨g0, g1, g2, g3, g4⟩ := ask_ok h
    refine ⟨k1 + k2, ?_⟩
    unfold sexp_Text.f textS
    rw [sexp_asked.more h1 k2, Option.bind_some, if_pos h, if_pos h, Nat.add_comm, sexp_sizes.more h2 k1, Option.bind_some]
    unfold textEnd
    rw [if_pos ⟨g0, by omega⟩, hz]
    by_cases hl2 : 1048576 < (txN l i.toNat).length
    · rw [if_pos (by unfold szI; omega), if_pos hl2]
    · have hs := snd_deep hl (by omega) g4 i.toNat (by omega) g3 (i.toNat + 1) (by omega)
      have ht : sxL l (i.toNat + 1) i = txN l i.toNat := by rw [txN, Int.toNat_of_nonneg g0]
      rw [Int.toNat_of_nonneg g0] at hs
      rw [if_neg (by unfold szI; omega), if_neg hl2, if_pos ⟨hs, by rw [ht]; omega⟩, ht]
  · refine ⟨k1, ?_⟩
    unfold sexp_Text.f textS
    rw [h1, Option.bind_some, if_neg h, if_neg h]
end
end Go.Proofs.YthklnopfgoekeaaGreatDoor.X
