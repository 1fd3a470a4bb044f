/- The reference's comparisons of rows of numbers and of nodes, where the rows are the same: they say so. The reference's Parse: it gives what sexp.Parse gives. -/
import Derived.Test.YthklnopfgoekeaaGreatDoorHParse
import Derived.StillTailTactics
import Derived.Test.YthklnopfgoekeaaGreatDoorHRWrite
namespace Go.Proofs.YthklnopfgoekeaaGreatDoor.X
section
open Go.RowKit Go.Proofs.YthklnopfgoekeaaGreatDoorW.PrintWords Go.Proofs.YthklnopfgoekeaaGreatDoorW.PrintLast Go.Proofs.YthklnopfgoekeaaGreatDoorW.PrintMore
set_option linter.unusedVariables false
set_option linter.unusedSimpArgs false
attribute [local go_sem high] eqA37
set_option maxHeartbeats 4000000 in
set_option maxRecDepth 100000 in
theorem ints_same (A0 A1 : Option Addr) (c0 c1 : Nat) (l : List Int) (w : World) (h0 : KI.C w A0 l.length l) (h1 : KI.C w A1 l.length l) :
    Calls Tryz.prog 30 #[.slice A0 l.length c0, .slice A1 l.length c1] w fun e w' => e = .returned (.bool true) ∧ Below w.heap.size w w' := by
  have hmx : l.length ≤ 9223372036854775807 := by have := h0.2.1; simpa [maxLen] using this
  have H0 := Aside0.mk h0
  have H1 := Aside0.mk h1
  clear h0 h1
  go_enter Tryz.func30, Tryz.ntmps30
  go_wp2
  go_loopw [5] (fun i wr => ∃ (k : Nat), k ≤ l.length ∧ i = .int .i64 k ∧ Aside0 (Below w.heap.size w wr)) (fun i _ => l.length - (intOf i).toNat)
  case atStart => exact ⟨0, by omega, by go_num, ⟨Below.refl _ _⟩⟩
  case round =>
    obtain ⟨k, hk, rfl, HB⟩ := hrel
    by_cases hlt : k < l.length
    · obtain ⟨a0, rfl, e0⟩ := Kd.at_int (Kd.C_below H0.out HB.out) k (by omega) (by omega)
      obtain ⟨a1, rfl, e1⟩ := Kd.at_int (Kd.C_below H1.out HB.out) k (by omega) (by omega)
      simp only [Int.toNat_natCast] at e0 e1
      have hwj : wrap64 ((k : Int) + 1) = (k : Int) + 1 := by unfold wrap64; omega
      go_wp2
      go_quiet (fail)
      go_wp2
      go_roundw
      case rel => exact ⟨k + 1, by omega, by go_num, ⟨pw_below_drewN HB.out _⟩⟩
      case measure => simp [intOf]; omega
    · obtain rfl : k = l.length := by omega
      go_wp2
      go_ret
      exact ⟨rfl, HB.out⟩
set_option maxHeartbeats 4000000 in
set_option maxRecDepth 100000 in
theorem sameInts_same (A0 A1 : Option Addr) (c0 c1 : Nat) (l : List Int) (w : World) (h0 : KI.C w A0 l.length l) (h1 : KI.C w A1 l.length l) :
    Calls Tryz.prog 11 #[.slice A0 l.length c0, .slice A1 l.length c1] w fun e w' => e = .returned (.bool true) ∧ Below w.heap.size w w' := by
  go_enter Tryz.func11, Tryz.ntmps11
  go_wp2_with fail
  refine (ints_same A0 A1 c0 c1 l w h0 h1).mono ?_
  rintro e w1 ⟨rfl, hb⟩
  go_wp2
  go_ret
  exact ⟨rfl, hb⟩
set_option maxHeartbeats 8000000 in
set_option maxRecDepth 100000 in
theorem nodes_same (A0 A1 : Option Addr) (c0 c1 : Nat) (l : List S56) (w : World) (h0 : Kd.C k56 w A0 l.length l) (h1 : Kd.C k56 w A1 l.length l) :
    Calls Tryz.prog 26 #[.slice A0 l.length c0, .slice A1 l.length c1] w fun e w' => e = .returned (.bool true) ∧ Below w.heap.size w w' := by
  have hmx : l.length ≤ 9223372036854775807 := by have := h0.2.1; simpa [maxLen] using this
  have H0 := Aside0.mk h0
  have H1 := Aside0.mk h1
  clear h0 h1
  go_enter Tryz.func26, Tryz.ntmps26
  go_wp2
  go_loopw [5] (fun i wr => ∃ (k : Nat), k ≤ l.length ∧ i = .int .i64 k ∧ Aside0 (Below w.heap.size w wr)) (fun i _ => l.length - (intOf i).toNat)
  case atStart => exact ⟨0, by omega, by go_num, ⟨Below.refl _ _⟩⟩
  case round =>
    obtain ⟨k, hk, rfl, HB⟩ := hrel
    by_cases hlt : k < l.length
    · obtain ⟨a0, A6, c6, rfl, e0, e1, e2, e3, e4, e5, e6, l6, g6⟩ := at_T56 (Kd.C_below H0.out HB.out) k (by omega) (by omega)
      obtain ⟨a1, B6, d6, rfl, f0, f1, f2, f3, f4, f5, f6, m6, j6⟩ := at_T56 (Kd.C_below H1.out HB.out) k (by omega) (by omega)
      simp only [Int.toNat_natCast] at e0 e1 e2 e3 e4 e5 e6 f0 f1 f2 f3 f4 f5 f6
      have hwj : wrap64 ((k : Int) + 1) = (k : Int) + 1 := by unfold wrap64; omega
      obtain ⟨n, hn⟩ : ∃ n, n = rd_T56 l k := ⟨_, rfl⟩
      rw [← hn] at e0 e1 e2 e3 e4 e5 e6 l6 g6 f0 f1 f2 f3 f4 f5 f6 m6 j6
      have G6 := Aside0.mk g6
      have J6 := Aside0.mk j6
      clear hn g6 j6
      go_wp2
      go_still_tail 35, (by kernel_rfl)
      go_wp2_with fail
      refine (ints_same A6 B6 c6 d6 n.f2 _ (by first | exact Kd.C_drew G6.out | exact Kd.C_drewN G6.out _) (by first | exact Kd.C_drew J6.out | exact Kd.C_drewN J6.out _)).mono ?_
      rintro e w2 ⟨rfl, hb2⟩
      have HB2 : Aside0 (Below w.heap.size w w2) := ⟨below_then (below_drew_any HB.out) (below_drew_any HB.out).size hb2⟩
      clear hb2
      go_wp2
      go_roundw
      case rel => exact ⟨k + 1, by omega, by go_num, HB2⟩
      case measure => simp [intOf]; omega
    · obtain rfl : k = l.length := by omega
      go_wp2
      go_ret
      exact ⟨rfl, HB.out⟩
theorem arr_eq {a b : ByteArray} (h : a.toList = b.toList) : a = b := by
  rw [ByteArray.toList_eq, ByteArray.toList_eq] at h
  cases a with
  | mk x => cases b with
    | mk y => cases x; cases y; simp_all
def same37 (a b : S37) : Bool := a.f0 == b.f0 && (a.f1.toList == b.f1.toList && (a.f2 == b.f2 && (a.f3 == b.f3 && a.f4 == b.f4)))
theorem same38_eq {a b : S37} (h : same37 a b = true) : a = b := by
  unfold same37 at h
  simp only [Bool.and_eq_true, beq_iff_eq] at h
  obtain ⟨h0, h1, h2, h3, h4⟩ := h
  have h1 := arr_eq h1
  cases a
  cases b
  simp_all
theorem same38_self (a : S37) : same37 a a = true := by simp [same37]
def same56 (a b : S56) : Bool := a.f0 == b.f0 && (same37 a.f1 b.f1 && a.f2 == b.f2)
theorem same57_eq {a b : S56} (h : same56 a b = true) : a = b := by
  unfold same56 at h
  simp only [Bool.and_eq_true, beq_iff_eq] at h
  obtain ⟨h0, h1, h2⟩ := h
  have h1 := same38_eq h1
  cases a
  cases b
  simp_all
def sameL : List S56 → List S56 → Bool
  | [], [] => true
  | a :: l, b :: m => same56 a b && sameL l m
  | _, _ => false
theorem sameL_eq : ∀ {l m : List S56}, sameL l m = true → l = m
  | [], [], _ => rfl
  | a :: l, b :: m, h => by
    rw [sameL, Bool.and_eq_true] at h
    rw [same57_eq h.1, sameL_eq h.2]
  | [], _ :: _, h => by cases h
  | _ :: _, [], h => by cases h
theorem sameL_self : ∀ l : List S56, sameL l l = true
  | [] => rfl
  | a :: l => by rw [sameL, sameL_self l]; simp [same56, same38_self]
/-- Told for rows that are the same alone. -/
def tribunalref07_Same.f (l0 : List (S56)) (l1 : List (S56)) : Option (Bool) := if sameL l0 l1 = true then some true else none
theorem tribunalref07_Same.calls (A0 : Option Addr) (c0 : Nat) (l0 : List (S56)) (A1 : Option Addr) (c1 : Nat) (l1 : List (S56)) (r : Bool) (w : World) (hr0 : Kd.C k56 w A0 l0.length l0) (hc0 : l0.length ≤ c0) (hr1 : Kd.C k56 w A1 l1.length l1) (hc1 : l1.length ≤ c1) (h : tribunalref07_Same.f l0 l1 = some r) :
    Calls Tryz.prog 26 #[.slice A0 l0.length c0, .slice A1 l1.length c1] w fun e w' => e = .returned (.bool r) ∧ Below w.heap.size w w' := by
  unfold tribunalref07_Same.f at h
  split at h
  · rename_i hs
    injection h with h
    subst h
    obtain rfl := sameL_eq hs
    exact nodes_same A0 A1 c0 c1 l0 w hr0 hr1
  · cases h
def tribunalref07_SameInts.f (l0 : List Int) (l1 : List Int) : Option (Bool) := if l0 = l1 then some true else none
theorem tribunalref07_SameInts.calls (A0 : Option Addr) (c0 : Nat) (l0 : List Int) (A1 : Option Addr) (c1 : Nat) (l1 : List Int) (r : Bool) (w : World) (hr0 : Kd.C (Kd.int .i64) w A0 l0.length l0) (hc0 : l0.length ≤ c0) (hr1 : Kd.C (Kd.int .i64) w A1 l1.length l1) (hc1 : l1.length ≤ c1) (h : tribunalref07_SameInts.f l0 l1 = some r) :
    Calls Tryz.prog 11 #[.slice A0 l0.length c0, .slice A1 l1.length c1] w fun e w' => e = .returned (.bool r) ∧ Below w.heap.size w w' := by
  unfold tribunalref07_SameInts.f at h
  split at h
  · rename_i hs
    injection h with h
    subst h hs
    exact sameInts_same A0 A1 c0 c1 l0 w hr0 hr1
  · cases h
end
section
open Go.RowKit Go.Proofs.YthklnopfgoekeaaGreatDoorW.PrintWords Go.Proofs.YthklnopfgoekeaaGreatDoorW.PrintLast Go.Proofs.YthklnopfgoekeaaGreatDoorW.PrintMore
set_option linter.unusedVariables false
set_option linter.unusedSimpArgs false
theorem info88 : (Tryz.prog.info? 88).map (fun i => (i.zero, i.size, i.bytes)) = some (some (.agg #[(.int .i64 0), (.string ⟨#[]⟩), (.bool false), (.int .i64 0), (.int .i64 0), .slice none 0 0]), 6, 72) := by kernel_rfl
/-- What the reference holds: the roots are the kids of the stack's first list. -/
structure RSt (w0 w : World) (base : Nat) (nodes : List S56) (st : List Opn) (vN vS : Value) : Prop where
  bel : Below base w0 w
  rN : Kd.S k56 56 w base (fun k => freeOf st k) vN nodes
  rS : w.ownsRow base 88 6 vS st.length (flatO st)
  rK : ∀ g ∈ st, KI.R 3 w base (fun _ => True) g.val g.kids
  dK : st.Pairwise (fun g h => ∀ k, g.val.ownBlock = some k → h.val.ownBlock ≠ some k)
theorem RSt.move {w0 w w1 : World} {base : Nat} {nodes : List S56} {st : List Opn} {vN vS : Value} (h : RSt w0 w base nodes st vN vS) (hb : Below w.heap.size w w1) (hbase : base ≤ w.heap.size) : RSt w0 w1 base nodes st vN vS where
  bel := below_then h.bel hbase hb
  rN := Kd.S_below h.rN hb
  rS := pw_own_below h.rS hb
  rK := fun g hg => Kd.R_below (h.rK g hg) hb
  dK := h.dK
theorem RSt.fresh {w0 w : World} {base : Nat} {nodes : List S56} {st : List Opn} {vN vS : Value} (h : RSt w0 w base nodes st vN vS) (k : Nat) (hk : w.heap.size ≤ k) : freeOf st k := fun g hg e => by
  have := (KI_typed (h.rK g hg) k e).2.1; omega
theorem RSt.last {w0 w : World} {base : Nat} {nodes : List S56} {init : List Opn} {g : Opn} {vN vS : Value} (h : RSt w0 w base nodes (init ++ [g]) vN vS) : ∃ gS cap cells, vS = .slice (some ⟨gS, 0, none⟩) (init.length + 1) cap ∧ init.length + 1 ≤ cap ∧ cap ≤ maxLen ∧ base ≤ gS ∧ w.heap[gS]? = some (.cells cells 88 (0, 0)) := by
  have hlen : (init ++ [g]).length = init.length + 1 := by simp
  rcases h.rS.2 with ⟨_, h0⟩ | ⟨gS, cap, cur, h1, h2, h3, h4, h5, h6, h7⟩
  · omega
  · rw [hlen] at h1 h4
    exact ⟨gS, cap, cur, h1, h4, h5, h2, h3⟩
/-- The cells of list j of the stack. -/
theorem RSt.cell {w0 w : World} {base gS m cap : Nat} {nodes : List S56} {st : List Opn} {vN : Value} (h : RSt w0 w base nodes st vN (.slice (some ⟨gS, 0, none⟩) m cap)) (j : Nat) (hj : j < st.length * 6) : w.cell? ⟨gS, j, none⟩ = (flatO st)[j]? := by
  have hm : m = st.length := by
    rcases h.rS.2 with ⟨h1, _⟩ | ⟨g', cap', cur, h1, _⟩
    · cases h1
    · injection h1
  subst hm
  exact World.ownsRow.cellAt h.rS j hj
theorem RSt.top {w0 w : World} {base gS m cap : Nat} {nodes : List S56} {init : List Opn} {g : Opn} {vN : Value} (h : RSt w0 w base nodes (init ++ [g]) vN (.slice (some ⟨gS, 0, none⟩) m cap)) :
    w.cell? ⟨gS, init.length * 6, none⟩ = some (.int .i64 g.tok.f0) ∧ w.cell? ⟨gS, init.length * 6 + 1, none⟩ = some (.string g.tok.f1) ∧ w.cell? ⟨gS, init.length * 6 + 2, none⟩ = some (.bool g.tok.f2) ∧ w.cell? ⟨gS, init.length * 6 + 3, none⟩ = some (.int .i64 g.tok.f3) ∧ w.cell? ⟨gS, init.length * 6 + 4, none⟩ = some (.int .i64 g.tok.f4) ∧ w.cell? ⟨gS, init.length * 6 + 5, none⟩ = some g.val := by
  have e : (init ++ [g]).length = init.length + 1 := by simp
  have hl := flatO_length init
  have at_ : ∀ j : Nat, j < 6 → w.cell? ⟨gS, init.length * 6 + j, none⟩ = (opnC g)[j]? := by
    intro j hj
    rw [h.cell _ (by rw [e]; omega), flatO_snoc, List.getElem?_append_right (by omega), show init.length * 6 + j - (flatO init).length = j by omega]
  exact ⟨at_ 0 (by omega), at_ 1 (by omega), at_ 2 (by omega), at_ 3 (by omega), at_ 4 (by omega), at_ 5 (by omega)⟩
/-- A node more. -/
theorem RSt.noded {w0 w w1 : World} {base : Nat} {nodes nodes1 : List S56} {st : List Opn} {vN vS v1 : Value} (h : RSt w0 w base nodes st vN vS)
    (hS : Kd.S k56 56 w1 base (fun k => freeOf st k) v1 nodes1) (hb : Below base w0 w1) (hg : w.grownBy w1 vN.ownBlock) : RSt w0 w1 base nodes1 st v1 vS := by
  have hty : ∀ (k : Nat) (cells : Array Value) (q : TypeId), q ≠ 56 → w.heap[k]? = some (.cells cells q (0, 0)) → w1.heap[k]? = w.heap[k]? := by
    intro k cells q hq hc
    refine hg.block k (blk_lt hc) ?_
    intro e
    obtain ⟨c2, hc2⟩ := Kd.S_typed h.rN k e.symm
    exact blk_ne hc hc2 hq rfl
  refine ⟨hb, hS, own_move h.rS (fun k hk => by obtain ⟨cells, hc⟩ := own_typed h.rS k hk; exact hty k cells 88 (by decide) hc), fun g hg => R_typ (h.rK g hg) (fun k cells q _ hq hc => hty k cells q (by rw [EKI q hq]; decide) hc), h.dK⟩
/-- The last list has a kid more. -/
theorem RSt.kided {w0 w w1 : World} {base gS m cap : Nat} {nodes : List S56} {kids1 : List Int} {init : List Opn} {g : Opn} {vN v1 : Value} (h : RSt w0 w base nodes (init ++ [g]) vN (.slice (some ⟨gS, 0, none⟩) m cap))
    (hR : KI.R 3 w1 base (fun _ => True) v1 kids1) (hb : Below base w0 w1) (hg : w.grownBy w1 g.val.ownBlock) (hat : v1.ownBlock = g.val.ownBlock ∨ ∃ b, v1.ownBlock = some b ∧ w.heap.size ≤ b) :
    RSt w0 (w1.setCell ⟨gS, init.length * 6 + 5, none⟩ v1) base nodes (init ++ [⟨g.tok, kids1, v1⟩]) vN (.slice (some ⟨gS, 0, none⟩) m cap) := by
  have hgm : g ∈ init ++ [g] := by simp
  have hKg := h.rK g hgm
  have hty : ∀ (k : Nat) (cells : Array Value) (q : TypeId), (q ≠ 3 ∨ g.val.ownBlock ≠ some k) → w.heap[k]? = some (.cells cells q (0, 0)) → w1.heap[k]? = w.heap[k]? := by
    intro k cells q hq hc
    refine hg.block k (blk_lt hc) ?_
    intro e
    rcases hq with hq | hq
    · obtain ⟨_, _, c2, hc2⟩ := KI_typed hKg k e.symm
      exact blk_ne hc hc2 hq rfl
    · exact hq e.symm
  obtain ⟨gS', cap', cS, e1, _, _, hbS, hS⟩ := h.last
  injection e1 with e1 em _
  injection e1 with e1
  injection e1 with e1 _ _
  subst e1 em
  have hS1 : w1.heap[gS]? = some (.cells cS 88 (0, 0)) := (hty gS _ 88 (.inl (by decide)) hS).trans hS
  have hmv : ∀ (k : Nat) (cells : Array Value) (q : TypeId), q ≠ 88 → (q ≠ 3 ∨ g.val.ownBlock ≠ some k) → w.heap[k]? = some (.cells cells q (0, 0)) → (w1.setCell ⟨gS, init.length * 6 + 5, none⟩ v1).heap[k]? = w.heap[k]? := by
    intro k cells q h92 hq hc
    have h1 := hty k cells q hq hc
    rw [set_far (blk_ne (h1.trans hc) hS1 h92), h1]
  refine ⟨hb.setCell hbS _, ?_, ?_, ?_, ?_⟩
  · refine Kd.S_mono (S_typB (w1 := w1.setCell ⟨gS, init.length * 6 + 5, none⟩ v1) h.rN (fun k cells q hok hq hc => hmv k cells q (by rcases E57 q hq with rfl | rfl <;> decide) (.inr (hok g hgm)) hc)) (fun k hk => ?_)
    rw [free_snoc]
    exact ⟨(free_snoc.1 hk.1).1, not_new hat hk.2 (free_snoc.1 hk.1).2⟩
  · have e : (init ++ [g]).length = init.length + 1 := by simp
    have h1 := h.rS
    rw [e] at h1
    have h2 : w1.ownsRow base 88 6 (.slice (some ⟨gS, 0, none⟩) (init.length + 1) cap) (init.length + 1) (flatO (init ++ [g])) := own_move h1 (fun k hk => by obtain ⟨cells, hc⟩ := own_typed h1 k hk; exact hty k cells 88 (.inl (by decide)) hc)
    have h3 := (World.ownsRow.stored h2 (init.length * 6 + 5) v1).1
    rw [flatO_set init g kids1 v1] at h3
    have e2 : (init ++ [(⟨g.tok, kids1, v1⟩ : Opn)]).length = init.length + 1 := by simp
    rw [e2]
    exact h3
  · intro a ha
    rcases List.mem_append.1 ha with ha | ha
    · have hne := (List.pairwise_append.1 h.dK).2.2 a ha g (by simp)
      exact Kd.R_mono (R_typ (KI_self (h.rK a (List.mem_append_left _ ha))) (fun k cells q hok hq hc => hmv k cells q (by rw [EKI q hq]; decide) (.inr (hne k hok)) hc)) (fun _ _ => trivial)
    · rw [List.mem_singleton.1 ha]
      exact Kd.R_set hR hS1 (fun q hq => by rw [EKI q hq]; decide) _ v1
  · have h1 := List.pairwise_append.1 h.dK
    refine List.pairwise_append.2 ⟨h1.1, List.pairwise_singleton _ _, fun a ha b hb2 => ?_⟩
    rw [List.mem_singleton.1 hb2]
    intro k hk
    exact not_new hat (KI_typed (h.rK a (List.mem_append_left _ ha)) k hk).2.1 (h1.2.2 a ha g (by simp) k hk)
/-- A list more. -/
theorem RSt.pushed {w0 w w1 : World} {base : Nat} {nodes : List S56} {st : List Opn} {t : S37} {vN vS v1 : Value} (h : RSt w0 w base nodes st vN vS)
    (hO : w1.ownsRow base 88 6 v1 (st.length + 1) (flatO st ++ opnC ⟨t, [], .slice none 0 0⟩)) (hb : Below base w0 w1) (hg : w.grownBy w1 vS.ownBlock) :
    RSt w0 w1 base nodes (st ++ [⟨t, [], .slice none 0 0⟩]) vN v1 := by
  have hty : ∀ (k : Nat) (cells : Array Value) (q : TypeId), q ≠ 88 → w.heap[k]? = some (.cells cells q (0, 0)) → w1.heap[k]? = w.heap[k]? := by
    intro k cells q hq hc
    refine hg.block k (blk_lt hc) ?_
    intro e
    obtain ⟨c2, hc2⟩ := own_typed h.rS k e.symm
    exact blk_ne hc hc2 hq rfl
  refine ⟨hb, ?_, ?_, ?_, ?_⟩
  · exact Kd.S_mono (S_typB (w1 := w1) h.rN (fun k cells q hok hq hc => hty k cells q (by rcases E57 q hq with rfl | rfl <;> decide) hc)) (fun k hk => free_snoc.2 ⟨hk.1, by simp [Value.ownBlock]⟩)
  · rw [← flatO_snoc] at hO
    have e : st.length + 1 = (st ++ [(⟨t, [], .slice none 0 0⟩ : Opn)]).length := by simp
    rw [e] at hO
    exact hO
  · intro a ha
    rcases List.mem_append.1 ha with ha | ha
    · exact R_typ (h.rK a ha) (fun k cells q hok hq hc => hty k cells q (by rw [EKI q hq]; decide) hc)
    · rw [List.mem_singleton.1 ha]
      exact Kd.R_nil _ _ _ _ _
  · refine List.pairwise_append.2 ⟨h.dK, List.pairwise_singleton _ _, fun a ha b hb2 => ?_⟩
    rw [List.mem_singleton.1 hb2]
    intro k hk
    simp [Value.ownBlock]
/-- The last list has ended. -/
theorem RSt.popped {w0 w : World} {base gS m cap : Nat} {nodes : List S56} {init : List Opn} {g : Opn} {vN : Value} (h : RSt w0 w base nodes (init ++ [g]) vN (.slice (some ⟨gS, 0, none⟩) m cap)) :
    RSt w0 w base nodes init vN (.slice (some ⟨gS, 0, none⟩) init.length cap)
    ∧ Kd.S k56 56 w base (fun k => freeOf init k ∧ ¬ g.val.ownBlock = some k) vN nodes
    ∧ KI.R 3 w base (fun k => g.val.ownBlock = some k) g.val g.kids ∧ ∀ k, g.val.ownBlock = some k → freeOf init k := by
  have hSS : Kd.S k56 56 w base (fun k => freeOf init k ∧ ¬ g.val.ownBlock = some k) vN nodes := Kd.S_mono h.rN (fun k hk => free_snoc.1 hk)
  have e : (init ++ [g]).length = init.length + 1 := by simp
  refine ⟨⟨h.bel, Kd.S_mono hSS (fun k hk => hk.1), ?_, fun a ha => h.rK a (List.mem_append_left _ ha), (List.pairwise_append.1 h.dK).1⟩, hSS, KI_self (h.rK g (by simp)), fun k hk a ha e => (List.pairwise_append.1 h.dK).2.2 a ha g (by simp) k e hk⟩
  have hl := flatO_length init
  rcases h.rS.2 with ⟨h1, _⟩ | ⟨g', cap', cur, h1, h2, h3, h4, h5, h6, h7⟩
  · cases h1
  · injection h1 with a1 a2 a3
    injection a1 with a1
    injection a1 with a1 _ _
    subst a1 a3
    refine ⟨hl, .inr ⟨gS, cap, cur, rfl, h2, h3, by omega, h5, h6, ?_⟩⟩
    have h8 : cur.toList.take (init.length * 6) = ((cur.toList.take ((init ++ [g]).length * 6))).take (init.length * 6) := by
      rw [List.take_take]
      congr 1
      rw [e]; omega
    rw [h8, h7, flatO_snoc, ← hl, List.take_left]
/-- The roots and the lists that have not ended, out of the reference's stack. -/
def stR : List Opn → List Int × Stk
  | [] => ([], [])
  | b :: rest => (b.kids, rest.map opnP)
theorem stR_snoc (init : List Opn) (g : Opn) (h : init ≠ []) : stR (init ++ [g]) = ((stR init).1, (stR init).2 ++ [opnP g]) := by
  cases init with
  | nil => exact absurd rfl h
  | cons b rest => show (b.kids, (rest ++ [g]).map opnP) = (b.kids, rest.map opnP ++ [opnP g]); rw [List.map_append]; rfl
theorem stR_length (init : List Opn) (g : Opn) : (stR (init ++ [g])).2.length = init.length := by
  cases init with
  | nil => rfl
  | cons b rest => show ((rest ++ [g]).map opnP).length = _; simp
theorem put_stR (nodes : List S56) (init : List Opn) (g : Opn) (n : S56) (v : Value) : putP nodes (stR (init ++ [g])).1 (stR (init ++ [g])).2 n = (nodes ++ [n], (stR (init ++ [⟨g.tok, g.kids ++ [(nodes.length : Int)], v⟩])).1, (stR (init ++ [⟨g.tok, g.kids ++ [(nodes.length : Int)], v⟩])).2) := by
  by_cases h : init = []
  · subst h; rfl
  · rw [stR_snoc init g h, stR_snoc init _ h, putP_snoc]
    rfl
structure RLoop (w wr : World) (l : List S37) (k : Nat) (nodes : List S56) (init : List Opn) (g : Opn) (vN vS : Value) : Prop where
  at_ : RSt w wr w.heap.size nodes (init ++ [g]) vN vS
  told : parseGo (l.drop k) nodes (stR (init ++ [g])).1 (stR (init ++ [g])).2 = parseR l
  n1 : nodes.length ≤ k
  n3 : init.length ≤ 4096
  n4 : ∀ a ∈ init ++ [g], a.kids.length ≤ k
theorem RLoop.begin (w : World) (l : List S37) : RLoop w (w.alloc (.cells #[.int .i64 0, .string ⟨#[]⟩, .bool false, .int .i64 0, .int .i64 0, .slice none 0 0] 88)) l 0 [] [] ⟨z37, [], .slice none 0 0⟩ (.slice none 0 0) (.slice (some ⟨w.heap.size, 0, none⟩) 1 1) := by
  refine ⟨⟨(Below.refl _ _).alloc (Nat.le_refl _) _, Kd.S_nil _ _ _ _ _, ?_, ?_, List.pairwise_singleton _ _⟩, rfl, Nat.le_refl _, Nat.zero_le _, ?_⟩
  · exact ⟨rfl, .inr ⟨w.heap.size, 1, _, rfl, Nat.le_refl _, heap_alloc_new w _, Nat.le_refl _, by decide, rfl, rfl⟩⟩
  · intro a ha
    rw [List.nil_append] at ha
    rw [List.mem_singleton.1 ha]
    exact Kd.R_nil _ _ _ _ _
  · intro a ha
    rw [List.nil_append] at ha
    rw [List.mem_singleton.1 ha]
    exact Nat.zero_le _
theorem box88 {w : World} {b : Nat} {v0 v1 v2 v3 v4 v5 : Value} (h : w.heap[b]? = some (.cells #[v0, v1, v2, v3, v4, v5] 88 (0, 0))) : w.cell? ⟨b, 0, none⟩ = some v0 ∧ w.cell? ⟨b, 1, none⟩ = some v1 ∧ w.cell? ⟨b, 2, none⟩ = some v2 ∧ w.cell? ⟨b, 3, none⟩ = some v3 ∧ w.cell? ⟨b, 4, none⟩ = some v4 ∧ w.cell? ⟨b, 5, none⟩ = some v5 := by
  refine ⟨?_, ?_, ?_, ?_, ?_, ?_⟩ <;> (rw [cell_of_row w b _ _ 88 (0, 0) h]; rfl)
theorem rp_facts2 (n : Nat) (hn : n ≤ 4096) : wrap64 ((n : Int) + 1 - 1) = (n : Int) ∧ wrap64 (n : Int) = (n : Int) ∧ (((n : Int) < (n : Int) + 1) = True) ∧ (((0 : Int) ≤ (n : Int)) = True) := by
  have e1 : (n : Int) < (n : Int) + 1 := by omega
  have e2 : (0 : Int) ≤ (n : Int) := by omega
  exact ⟨by unfold wrap64; omega, by unfold wrap64; omega, eq_true e1, eq_true e2⟩
theorem rp_facts3 (n : Nat) (hn : n ≤ 1099511627776) : wrap64 ((n : Int) + 1 - 1) = (n : Int) ∧ wrap64 (n : Int) = (n : Int) ∧ (((n : Int) < (n : Int) + 1) = True) ∧ (((0 : Int) ≤ (n : Int)) = True) := by
  have e1 : (n : Int) < (n : Int) + 1 := by omega
  have e2 : (0 : Int) ≤ (n : Int) := by omega
  exact ⟨by unfold wrap64; omega, by unfold wrap64; omega, eq_true e1, eq_true e2⟩
/-- The last list's cell stands behind an append to its kids. -/
theorem RSt.kept {w0 w w1 : World} {base gS m cap : Nat} {nodes : List S56} {init : List Opn} {g : Opn} {vN : Value} (h : RSt w0 w base nodes (init ++ [g]) vN (.slice (some ⟨gS, 0, none⟩) m cap)) (hg : w.grownBy w1 g.val.ownBlock) :
    w1.cell? ⟨gS, init.length * 6 + 5, none⟩ = some g.val ∧ w1.frozen? ⟨gS, init.length * 6 + 5, none⟩ = false := by
  have hKg := h.rK g (by simp)
  have q5 := h.top.2.2.2.2.2
  obtain ⟨gS', cap', cS, e1, _, _, hbS, hS⟩ := h.last
  injection e1 with e1 em _
  injection e1 with e1
  injection e1 with e1 _ _
  subst e1 em
  have h7 : w1.heap[gS]? = some (.cells cS 88 (0, 0)) := (hg.block gS (blk_lt hS) (fun e => by
    obtain ⟨_, _, c2, hc2⟩ := KI_typed hKg gS e.symm
    exact blk_ne hS hc2 (by decide) rfl)).trans hS
  refine ⟨?_, frozen_of_row w1 gS _ cS 88 h7⟩
  rw [cell_of_row w1 gS _ cS 88 (0, 0) h7, ← cell_of_row w gS _ cS 88 (0, 0) hS, q5]
theorem rp_facts (n cap : Nat) (h : n + 1 ≤ cap) (h0 : 0 < n) (hn : n ≤ 4096) : (((n : Int) + 1 == 1) = false) ∧ wrap64 ((n : Int) + 1 - 1) = (n : Int) ∧ wrap64 (n : Int) = (n : Int) ∧ (((n : Int) < (n : Int) + 1) = True) ∧ (((0 : Int) ≤ (n : Int)) = True) ∧ (((n : Int) ≤ (cap : Int)) = True) := by
  have e1 : (n : Int) < (n : Int) + 1 := by omega
  have e2 : (0 : Int) ≤ (n : Int) := by omega
  have e3 : (n : Int) ≤ (cap : Int) := by omega
  exact ⟨by simp; omega, by unfold wrap64; omega, by unfold wrap64; omega, eq_true e1, eq_true e2, eq_true e3⟩
theorem box56 {w : World} {b : Nat} {v0 v1 v2 v3 v4 v5 v6 : Value} (h : w.heap[b]? = some (.cells #[v0, v1, v2, v3, v4, v5, v6] 56 (0, 0))) : w.cell? ⟨b, 0, none⟩ = some v0 ∧ w.cell? ⟨b, 1, none⟩ = some v1 ∧ w.cell? ⟨b, 2, none⟩ = some v2 ∧ w.cell? ⟨b, 3, none⟩ = some v3 ∧ w.cell? ⟨b, 4, none⟩ = some v4 ∧ w.cell? ⟨b, 5, none⟩ = some v5 ∧ w.cell? ⟨b, 6, none⟩ = some v6 := by
  refine ⟨?_, ?_, ?_, ?_, ?_, ?_, ?_⟩ <;> (rw [cell_of_row w b _ _ 56 (0, 0) h]; rfl)
set_option maxHeartbeats 8000000 in
set_option maxRecDepth 100000 in
theorem rparse_tells (A0 : Option Addr) (c0 : Nat) (l0 : List S37) (w : World) (hr0 : Kd.C k37 w A0 l0.length l0) (hc0 : l0.length ≤ c0) (hn : l0.length ≤ 1099511627776) (ht : ∀ k : Nat, k < l0.length → (rd_T37 l0 k).f1.size ≤ 1099511627776) :
    Calls Tryz.prog 25 #[.slice A0 l0.length c0] w fun e w' => ∃ v0 v1 : Value, e = .returned (.tuple #[v0, v1, .int .i64 (parseR l0).2.2.1, .int .i64 (parseR l0).2.2.2.1, .int .i64 (parseR l0).2.2.2.2]) ∧ Kd.S k56 56 w' w.heap.size (fun k_ => some k_ ≠ v1.ownBlock) v0 (parseR l0).1 ∧ Kd.R (Kd.int .i64) 3 w' w.heap.size (fun _ => True) v1 (parseR l0).2.1 ∧ Below w.heap.size w w' := by
  have HR := Aside0.mk hr0
  have HT := Aside0.mk ht
  have HB0 := Aside0.mk (RLoop.begin w l0)
  clear hr0 ht
  go_enter Tryz.func25, Tryz.ntmps25
  go_wp2
  go_loopw [7, 8, 9] (fun vN vS i wr => ∃ (k : Nat) (nodes : List S56) (init : List Opn) (g : Opn), k ≤ l0.length ∧ i = .int .i64 k ∧ Aside0 (RLoop w wr l0 k nodes init g vN vS)) (fun _ _ i _ => l0.length - (intOf i).toNat)
  case atStart => exact ⟨0, [], [], _, by omega, by go_num, HB0⟩
  case round =>
    obtain ⟨k, nodes, init, g, hk, rfl, HP⟩ := hrel
    obtain ⟨AN, cN, rfl⟩ := nodes_form HP.out.at_.rN
    by_cases hlt : k < l0.length
    · obtain ⟨ad, rfl, e0, e1, e2, e3, e4⟩ := at_T37 (Kd.C_below HR.out HP.out.at_.bel) k (by omega) (by omega)
      simp only [Int.toNat_natCast] at e0 e1 e2 e3 e4
      have HTk := Aside0.mk (HT.out k hlt)
      have HD := Aside0.mk (drop_at2 hlt)
      obtain ⟨t, htk⟩ : ∃ t, t = rd_T37 l0 k := ⟨_, rfl⟩
      rw [← htk] at e0 e1 e2 e3 e4 HTk HD
      clear htk
      have hbase : w.heap.size ≤ wr.heap.size := HP.out.at_.bel.size
      go_wp2_with fail
      refine (rwrite_tells t.f0 t.f1 t.f2 t.f3 t.f4 HTk.out _).mono ?_
      rintro e w1 ⟨rfl, hb1⟩
      obtain ⟨x, f, hwx⟩ : ∃ x f, writeR t.f0 t.f1 t.f2 = (x, f) := ⟨_, _, rfl⟩
      rw [hwx]
      have HW := Aside0.mk hwx
      have hk1 := blk_below (blk_new wr (.cells #[.int .i64 t.f0, .string t.f1, .bool t.f2, .int .i64 t.f3, .int .i64 t.f4] 37)) hb1
      obtain ⟨d0, d1, d2, d3, d4⟩ := box37 hk1
      have HP1 := Aside0.mk (HP.out.at_.move (below_step (below_alloc (Below.refl _ _) _) hb1) hbase)
      have hbase1 : w.heap.size ≤ w1.heap.size := HP1.out.bel.size
      have HN := Aside0.mk (And.intro HP.out.n1 (And.intro HP.out.n3 HP.out.n4))
      have HQ : Aside0 (parseGo (t :: l0.drop (k + 1)) nodes (stR (init ++ [g])).1 (stR (init ++ [g])).2 = parseR l0) := ⟨by rw [← HD.out]; exact HP.out.told⟩
      have hk1lt := blk_lt hk1
      obtain ⟨gS, cap, cells, rfl, hcap, hcapm, hgb, hcS⟩ := HP1.out.last
      have hcS1 := blk_lt hcS
      clear hwx hb1 e0 e1 e2 e3 e4 hk1 HP HD hbase hcS
      cases hf : (f != 0) with
      | true =>
        have HE : Aside0 (parseR l0 = ([], [], t.f3, t.f4, 73)) := ⟨by rw [← HQ.out, parse_bad HW.out hf]⟩
        go_wp2
        go_quiet (fail)
        go_wp2
        refine bodyPost_ret (results_list (rs := [.tmp 2, .tmp 3, .tmp 4, .tmp 5, .tmp 6]) rfl (by simp) (.tmp (.tmp (.tmp (.tmp (.tmp .nil)))))) rfl ?_
        rw [HE.out]
        exact ⟨_, _, rfl, Kd.S_nil _ _ _ _ _, Kd.R_nil _ _ _ _ _, pw_below_drewN HP1.out.bel _⟩
      | false =>
        cases h1 : (t.f0 == 1) with
        | true =>
          have H1 : Aside0 (t.f0 = 1) := ⟨by simpa using h1⟩
          by_cases hd : 4096 ≤ init.length
          · have hg : decide ((4096 : Int) < (init.length : Int) + 1) = true := decide_eq_true (by omega)
            have HE : Aside0 (parseR l0 = ([], [], t.f3, t.f4, 72)) := ⟨by rw [← HQ.out, parse_deep HW.out hf H1.out (by rw [stR_length]; exact hd)]⟩
            go_wp2
            go_quiet (fail)
            go_wp2
            refine bodyPost_ret (results_list (rs := [.tmp 2, .tmp 3, .tmp 4, .tmp 5, .tmp 6]) rfl (by simp) (.tmp (.tmp (.tmp (.tmp (.tmp .nil)))))) rfl ?_
            rw [HE.out]
            exact ⟨_, _, rfl, Kd.S_nil _ _ _ _ _, Kd.R_nil _ _ _ _ _, pw_below_drewN HP1.out.bel _⟩
          · have hg : decide ((4096 : Int) < (init.length : Int) + 1) = false := decide_eq_false (by omega)
            have HE := Aside0.mk (parse_push (ts := l0.drop (k + 1)) (nodes := nodes) (roots := (stR (init ++ [g])).1) (stk := (stR (init ++ [g])).2) HW.out hf H1.out (by rw [stR_length]; exact hd))
            go_wp2_with (at_builtin; (refine print_append_cells (w0 := w) (W := w1) w.heap.size rfl (.tmp 50) (.tmp 53) 89 88 _ 6 72 rfl Tryz.underlying89 info88 rfl (by decide) (by decide) (.slice (some ⟨gS, 0, none⟩) (init.length + 1) cap) (init.length + 1) (flatO (init ++ [g])) [.int .i64 t.f0, .string t.f1, .bool t.f2, .int .i64 t.f3, .int .i64 t.f4, .slice none 0 0] rfl (by simp [Act.eval]) rfl (by intro u hu; simp at hu; rcases hu with rfl | rfl | rfl | rfl | rfl | rfl <;> rfl) (by have := HP1.out.rS; rw [List.length_append, List.length_singleton] at this; exact this) HP1.out.bel hbase1 (by omega) ?_; intro v1 w2 hO hb2 hg2 hat2; obtain ⟨A2, c2, hv2⟩ := own_slice hO; subst hv2; have HP2 := Aside0.mk (HP1.out.pushed (t := t) (by rw [List.length_append, List.length_singleton]; exact hO) hb2 hg2); clear hO hb2 hg2 hat2))
            go_roundw
            case rel => exact ⟨k + 1, nodes, init ++ [g], ⟨t, [], .slice none 0 0⟩, by omega, by go_num, ⟨⟨HP2.out, by rw [stR_snoc (init ++ [g]) _ (by simp)]; exact HE.out.symm.trans HQ.out, by have := HN.out.1; omega, by rw [List.length_append, List.length_singleton]; omega, fun a ha => by
              rcases List.mem_append.1 ha with ha | ha
              · have := HN.out.2.2 a ha; omega
              · rw [List.mem_singleton.1 ha]; exact Nat.zero_le _⟩⟩⟩
            case measure => simp [intOf]; omega
        | false =>
          have H1 : Aside0 (¬ t.f0 = 1) := ⟨by simpa using h1⟩
          go_upto_if 59 with (fail)
          go_cut [8] (fun v8 wc => ∃ (ini : List Opn) (h : Opn) (n : S56) (A : Option Addr) (m c : Nat), v8 = .slice (some ⟨gS, 0, none⟩) (ini.length + 1) cap ∧ Aside0 (RSt w wc w.heap.size nodes (ini ++ [h]) (.slice AN nodes.length cN) (.slice (some ⟨gS, 0, none⟩) (ini.length + 1) cap)) ∧ Aside0 (Kd.S k56 56 wc w.heap.size (fun k => freeOf (ini ++ [h]) k ∧ ¬ (Value.slice A m c).ownBlock = some k) (.slice AN nodes.length cN) nodes) ∧ Aside0 (KI.R 3 wc w.heap.size (fun k => (Value.slice A m c).ownBlock = some k) (.slice A m c) n.f2) ∧ Aside0 (∀ k, (Value.slice A m c).ownBlock = some k → freeOf (ini ++ [h]) k) ∧ Aside0 (wc.heap[w1.heap.size]? = some (.cells #[.int .i64 n.f0, .int .i64 n.f1.f0, .string n.f1.f1, .bool n.f1.f2, .int .i64 n.f1.f3, .int .i64 n.f1.f4, .slice A m c] 56 (0, 0))) ∧ Aside0 (∀ v, parseGo (l0.drop (k + 1)) (nodes ++ [n]) (stR (ini ++ [⟨h.tok, h.kids ++ [(nodes.length : Int)], v⟩])).1 (stR (ini ++ [⟨h.tok, h.kids ++ [(nodes.length : Int)], v⟩])).2 = parseR l0) ∧ Aside0 (ini.length ≤ 4096 ∧ ∀ a ∈ ini ++ [h], a.kids.length ≤ k))
          case first =>
            cases h2 : (t.f0 == 2) with
            | false =>
              have H2 : Aside0 (¬ t.f0 = 2) := ⟨by simpa using h2⟩
              have HP2 := Aside0.mk (HP1.out.move (below_alloc (Below.refl _ _) (.cells #[.int .i64 1, .int .i64 t.f0, .string t.f1, .bool t.f2, .int .i64 t.f3, .int .i64 t.f4, .slice none 0 0] 56)) hbase1)
              have HK2 := Aside0.mk (blk_new w1 (.cells #[.int .i64 1, .int .i64 t.f0, .string t.f1, .bool t.f2, .int .i64 t.f3, .int .i64 t.f4, .slice none 0 0] 56))
              go_wp2
              go_meet
              case rel => exact ⟨init, g, ⟨1, t, []⟩, none, 0, 0, rfl, HP2, ⟨Kd.S_mono HP2.out.rN (fun k hk => ⟨hk, by simp [Value.ownBlock]⟩)⟩, ⟨Kd.R_nil _ _ _ _ _⟩, ⟨fun k hk => by simp [Value.ownBlock] at hk⟩, HK2, ⟨fun v => by rw [← HQ.out, parse_atom HW.out hf H1.out H2.out (put_stR nodes init g ⟨1, t, []⟩ v)]⟩, ⟨HN.out.2⟩⟩
            | true =>
              have H2 : Aside0 (t.f0 = 2) := ⟨by simpa using h2⟩
              by_cases hi0 : init = []
              · subst hi0
                have HE : Aside0 (parseR l0 = ([], [], t.f3, t.f4, 70)) := ⟨by
                  rw [← HQ.out]
                  exact parse_close0 HW.out hf H2.out⟩
                have HB2 : Aside0 (∀ o : Obj, Below w.heap.size w (w1.alloc o)) := ⟨fun o => HP1.out.bel.alloc hbase1 o⟩
                go_wp2
                go_quiet (fail)
                go_wp2
                refine bodyPost_ret (results_list (rs := [.tmp 2, .tmp 3, .tmp 4, .tmp 5, .tmp 6]) rfl (by simp) (.tmp (.tmp (.tmp (.tmp (.tmp .nil)))))) rfl ?_
                rw [HE.out]
                exact ⟨_, _, rfl, Kd.S_nil _ _ _ _ _, Kd.R_nil _ _ _ _ _, pw_below_drewN (HB2.out _) _⟩
              · obtain ⟨gt, gk, gv⟩ := g
                obtain ⟨Ag, cg, hgv⟩ := Kd.R_slice (HP1.out.rK ⟨gt, gk, gv⟩ (by simp))
                have hgv : gv = .slice Ag gk.length cg := hgv
                subst hgv
                obtain ⟨q0, q1, q2, q3, q4, q5⟩ := HP1.out.top
                obtain ⟨hq, hwr, hwr3, hlt1, hle0, hlc⟩ := rp_facts init.length cap hcap (List.length_pos_iff.2 hi0) HN.out.2.1
                have HI0 := Aside0.mk hi0
                have HC := Aside0.mk hcap
                have HPA := Aside0.mk (HP1.out.move (below_alloc (Below.refl _ _) (.cells #[.int .i64 1, .int .i64 t.f0, .string t.f1, .bool t.f2, .int .i64 t.f3, .int .i64 t.f4, .slice none 0 0] 56)) hbase1)
                have hk57 := blk_new w1 (.cells #[.int .i64 1, .int .i64 t.f0, .string t.f1, .bool t.f2, .int .i64 t.f3, .int .i64 t.f4, .slice none 0 0] 56)
                have HK57 := Aside0.mk hk57
                clear hi0 hcap hcapm hk57
                go_upto_region 20 with (fail)
                have HPB := Aside0.mk (HPA.out.move (below_alloc (Below.refl _ _) (.cells #[.int .i64 gt.f0, .string gt.f1, .bool gt.f2, .int .i64 gt.f3, .int .i64 gt.f4, .slice Ag gk.length cg] 88)) (HPA.out.bel.size))
                have hk92 := blk_new (w1.alloc (.cells #[.int .i64 1, .int .i64 t.f0, .string t.f1, .bool t.f2, .int .i64 t.f3, .int .i64 t.f4, .slice none 0 0] 56)) (.cells #[.int .i64 gt.f0, .string gt.f1, .bool gt.f2, .int .i64 gt.f3, .int .i64 gt.f4, .slice Ag gk.length cg] 88)
                have hsz : (w1.alloc (.cells #[.int .i64 1, .int .i64 t.f0, .string t.f1, .bool t.f2, .int .i64 t.f3, .int .i64 t.f4, .slice none 0 0] 56)).heap.size = w1.heap.size + 1 := by simp
                rw [hsz] at hk92
                have hk57 := blk_alloc HK57.out (.cells #[.int .i64 gt.f0, .string gt.f1, .bool gt.f2, .int .i64 gt.f3, .int .i64 gt.f4, .slice Ag gk.length cg] 88)
                obtain ⟨w2, hw2⟩ : ∃ w2, w2 = ((w1.alloc (.cells #[.int .i64 1, .int .i64 t.f0, .string t.f1, .bool t.f2, .int .i64 t.f3, .int .i64 t.f4, .slice none 0 0] 56)).alloc (.cells #[.int .i64 gt.f0, .string gt.f1, .bool gt.f2, .int .i64 gt.f3, .int .i64 gt.f4, .slice Ag gk.length cg] 88)) := ⟨_, rfl⟩
                have HB12 : Aside0 (Below w1.heap.size w1 w2) := ⟨by rw [hw2]; exact (((Below.refl _ _).alloc (Nat.le_refl _) _).alloc (by simp) _)⟩
                rw [← hw2] at HPB hk92 hk57 ⊢
                obtain ⟨r0, r1, r2, r3, r4, r5⟩ := box88 hk92
                obtain ⟨y0, y1, y2, y3, y4, y5, y6⟩ := box56 hk57
                have z0 := blk_frozen hk57
                have HK2 := Aside0.mk hk57
                clear hw2 HPA HK57 hk92 hk57 hsz q0 q1 q2 q3 q4 q5 d0 d1 d2 d3 d4
                have z1 := z0 0
                have z2 := z0 1
                have z3 := z0 2
                have z4 := z0 3
                have z5 := z0 4
                have z6 := z0 5
                have z7 := z0 6
                clear z0
                go_wp2
                go_meet
                case rel =>
                  obtain ⟨w3, hw3⟩ : ∃ w3, w3 = (((((((w2.setCell ⟨w1.heap.size, 0, none⟩ (.int .i64 2)).setCell ⟨w1.heap.size, 1, none⟩ (.int .i64 gt.f0)).setCell ⟨w1.heap.size, 2, none⟩ (.string gt.f1)).setCell ⟨w1.heap.size, 3, none⟩ (.bool gt.f2)).setCell ⟨w1.heap.size, 4, none⟩ (.int .i64 gt.f3)).setCell ⟨w1.heap.size, 5, none⟩ (.int .i64 gt.f4)).setCell ⟨w1.heap.size, 6, none⟩ (.slice Ag gk.length cg)) := ⟨_, rfl⟩
                  have hb3 : Below w1.heap.size w1 w3 := by
                    rw [hw3]
                    exact (((((((HB12.out.setCell (Nat.le_refl _) _).setCell (Nat.le_refl _) _).setCell (Nat.le_refl _) _).setCell (Nat.le_refl _) _).setCell (Nat.le_refl _) _).setCell (Nat.le_refl _) _).setCell (Nat.le_refl _) _)
                  have hk3 : w3.heap[w1.heap.size]? = some (.cells #[.int .i64 2, .int .i64 gt.f0, .string gt.f1, .bool gt.f2, .int .i64 gt.f3, .int .i64 gt.f4, .slice Ag gk.length cg] 56 (0, 0)) := by
                    rw [hw3]
                    exact blk_set (blk_set (blk_set (blk_set (blk_set (blk_set (blk_set HK2.out 0 _) 1 _) 2 _) 3 _) 4 _) 5 _) 6 _
                  rw [← hw3]
                  clear hw3
                  have HP3 := HP1.out.move hb3 hbase1
                  obtain ⟨P3, S3, K3, A3⟩ := HP3.popped
                  rcases nil_or_snoc init with rfl | ⟨ini, h, rfl⟩
                  · exact absurd rfl HI0.out
                  · have e : (ini ++ [h]).length = ini.length + 1 := by simp
                    rw [e] at P3 ⊢
                    exact ⟨ini, h, ⟨2, gt, gk⟩, Ag, gk.length, cg, rfl, ⟨P3⟩, ⟨S3⟩, ⟨K3⟩, ⟨A3⟩, ⟨hk3⟩, ⟨fun v => by
                      rw [← HQ.out, stR_snoc (ini ++ [h]) _ (by simp)]
                      exact (parse_close (g := (gt, gk)) HW.out hf H2.out (put_stR nodes ini h ⟨2, gt, gk⟩ v)).symm⟩, ⟨by have := HN.out.2.1; rw [e] at this; omega, fun a ha => HN.out.2.2 a (List.mem_append_left _ ha)⟩⟩
          case rest =>
            obtain ⟨ini, h, n, A, m, c, rfl, J1, J2, J3, J4, J5, J6, J7⟩ := hcut
            obtain ⟨tk, kids, val⟩ := h
            obtain ⟨AK, ck, hkv⟩ := Kd.R_slice (J1.out.rK ⟨tk, kids, val⟩ (by simp))
            have hkv : val = .slice AK kids.length ck := hkv
            subst hkv
            obtain ⟨y0, y1, y2, y3, y4, y5, y6⟩ := box56 J5.out
            have hbw : w.heap.size ≤ wc.heap.size := J1.out.bel.size
            have hnl : nodes.length ≤ 1099511627776 := by have := HN.out.1; omega
            have hkl : kids.length ≤ 1099511627776 := by have := J7.out.2 ⟨tk, kids, .slice AK kids.length ck⟩ (by simp); have h2 : kids.length ≤ k := this; omega
            have HOK : Aside0 (∀ k, (Value.slice A m c).ownBlock = some k → freeOf (ini ++ [⟨tk, kids, .slice AK kids.length ck⟩]) k ∧ some k ≠ (Value.slice AN nodes.length cN).ownBlock) := ⟨fun k hk => ⟨J4.out k hk, kids_not_nodes J1.out.rN J3.out k hk⟩⟩
            clear d0 d1 d2 d3 d4 HP1
            go_upto_region 22 with (at_builtin; (refine Kd.S_append (w0 := w) (W := wc) k56 w.heap.size rfl (.tmp 83) (.tmp 85) 22 56 _ 80 rfl Tryz.underlying22 info56 rfl (by decide) (by decide) (.slice AN nodes.length cN) nodes n [.int .i64 n.f0, .int .i64 n.f1.f0, .string n.f1.f1, .bool n.f1.f2, .int .i64 n.f1.f3, .int .i64 n.f1.f4, .slice A m c] (fun k => freeOf (ini ++ [⟨tk, kids, .slice AK kids.length ck⟩]) k) (fun k => (Value.slice A m c).ownBlock = some k) rfl (by simp [Act.eval]) (k56_mkM _ _ _ _ J3.out) HOK.out (fun k hk => J1.out.fresh k hk) J2.out J1.out.bel hbw (by omega) ?_; intro v1 w2 hS1 hb1 hg1 hat1; obtain ⟨A1, n1, hv1⟩ := nodes_form hS1; rw [List.length_append, List.length_singleton] at hv1; subst hv1; have HP2 := Aside0.mk (J1.out.noded hS1 hb1 hg1); clear hS1 hb1 hg1 hat1))
            obtain ⟨hwr, hwr3, hlt1, hle0⟩ := rp_facts2 ini.length J7.out.1
            obtain ⟨hwn, hwn3, hln, hlen0⟩ := rp_facts3 nodes.length hnl
            have hb2 : w.heap.size ≤ w2.heap.size := HP2.out.bel.size
            have q5 := HP2.out.top.2.2.2.2.2
            clear y0 y1 y2 y3 y4 y5 y6 HOK hnl
            go_wp2_with (at_builtin; (refine Kd.R_append (w0 := w) (W := w2) KI w.heap.size rfl (.tmp 96) (.tmp 100) 31 3 _ 8 rfl Tryz.underlying31 info3 rfl (by decide) (by decide) (.slice AK kids.length ck) kids (nodes.length : Int) [.int .i64 (nodes.length : Int)] (fun _ => True) (fun _ => False) rfl (by simp [Act.eval]) rfl (fun _ hk => hk.elim) (fun _ _ => trivial) (HP2.out.rK (⟨tk, kids, .slice AK kids.length ck⟩ : Opn) (by simp)) HP2.out.bel hb2 (by omega) ?_; intro v3 w3 hR1 hb1 hg1 hat1; obtain ⟨A3, n3, hv3⟩ := Kd.R_slice hR1; rw [List.length_append, List.length_singleton] at hv3; subst hv3; obtain ⟨x1, x2⟩ := HP2.out.kept hg1; have HP3 := Aside0.mk (HP2.out.kided hR1 hb1 hg1 hat1); clear hR1 hb1 hg1 hat1))
            clear hwr hwr3 hlt1 hle0 hwn hwn3 hln hlen0 q5
            go_roundw
            case rel => exact ⟨k + 1, nodes ++ [n], ini, ⟨tk, kids ++ [(nodes.length : Int)], .slice A3 (kids.length + 1) n3⟩, by omega, by go_num, ⟨⟨HP3.out, J6.out _, by rw [List.length_append, List.length_singleton]; have := HN.out.1; omega, J7.out.1, fun a ha => by
              rcases List.mem_append.1 ha with ha | ha
              · have := J7.out.2 a (List.mem_append_left _ ha); omega
              · rw [List.mem_singleton.1 ha]
                have := J7.out.2 ⟨tk, kids, .slice AK kids.length ck⟩ (by simp)
                have h2 : kids.length ≤ k := this
                show (kids ++ [_]).length ≤ _
                rw [List.length_append, List.length_singleton]
                omega⟩⟩⟩
            case measure => simp [intOf]; omega
    · obtain rfl : k = l0.length := by omega
      have HQ2 : Aside0 (parseGo [] nodes (stR (init ++ [g])).1 (stR (init ++ [g])).2 = parseR l0) := ⟨by have := HP.out.told; rw [List.drop_length] at this; exact this⟩
      obtain ⟨gS, cap, cells, rfl, hcap, hcapm, hgb, hcS⟩ := HP.out.at_.last
      obtain ⟨q0, q1, q2, q3, q4, q5⟩ := HP.out.at_.top
      by_cases hi0 : init = []
      · subst hi0
        have HE : Aside0 (parseR l0 = (nodes, g.kids, 0, 0, 0)) := ⟨by rw [← HQ2.out]; rfl⟩
        have q5' : wr.cell? ⟨gS, 5, none⟩ = some g.val := by simpa using q5
        clear q0 q1 q2 q3 q4 q5 hcapm
        go_wp2
        go_quiet (fail)
        go_wp2
        refine bodyPost_ret (results_list (rs := [.tmp 2, .tmp 3, .tmp 4, .tmp 5, .tmp 6]) rfl (by simp) (.tmp (.tmp (.tmp (.tmp (.tmp .nil)))))) rfl ?_
        rw [HE.out]
        exact ⟨_, _, rfl, Kd.S_drewN (show Kd.S k56 56 wr w.heap.size (fun k_ => some k_ ≠ g.val.ownBlock) (.slice AN nodes.length cN) nodes from Kd.S_mono HP.out.at_.rN (fun k hk e => hk g (by simp) e.symm)) _, Kd.R_drewN (HP.out.at_.rK g (by simp)) _, pw_below_drewN HP.out.at_.bel _⟩
      · obtain ⟨hwr, hwr3, hlt1, hle0⟩ := rp_facts2 init.length HP.out.n3
        have hgt : decide ((1 : Int) < (init.length : Int) + 1) = true := by
          have := List.length_pos_iff.2 hi0
          exact decide_eq_true (by omega)
        have HE : Aside0 (parseR l0 = ([], [], g.tok.f3, g.tok.f4, 71)) := ⟨by
          rw [← HQ2.out, stR_snoc init g hi0, parseGo]
          show (match ((stR init).2 ++ [opnP g]).getLast? with | none => _ | some g => _) = _
          rw [List.getLast?_concat]
          rfl⟩
        have HB2 : Aside0 (∀ o : Obj, Below w.heap.size w (wr.alloc o)) := ⟨fun o => HP.out.at_.bel.alloc HP.out.at_.bel.size o⟩
        clear hi0 hcapm
        go_wp2
        go_quiet (fail)
        go_wp2
        refine bodyPost_ret (results_list (rs := [.tmp 2, .tmp 3, .tmp 4, .tmp 5, .tmp 6]) rfl (by simp) (.tmp (.tmp (.tmp (.tmp (.tmp .nil)))))) rfl ?_
        rw [HE.out]
        exact ⟨_, _, rfl, Kd.S_nil _ _ _ _ _, Kd.R_nil _ _ _ _ _, pw_below_drewN (HB2.out _) _⟩
def tribunalref07_Parse.f (l0 : List (S37)) : Option ((List (S56)) × List Int × Int × Int × Int) := if l0.length ≤ 1099511627776 ∧ l0.all (fun t => decide (t.f1.size ≤ 1099511627776)) = true then some (parseR l0) else none
theorem tribunalref07_Parse.calls (A0 : Option Addr) (c0 : Nat) (l0 : List (S37)) (r1 : List (S56)) (r2 : List Int) (r3 : Int) (r4 : Int) (r5 : Int) (w : World) (hr0 : Kd.C k37 w A0 l0.length l0) (hc0 : l0.length ≤ c0) (h : tribunalref07_Parse.f l0 = some (r1, r2, r3, r4, r5)) :
    Calls Tryz.prog 25 #[.slice A0 l0.length c0] w fun e w' => ∃ v0_ v1_ : Value, e = .returned (.tuple #[v0_, v1_, .int .i64 r3, .int .i64 r4, .int .i64 r5]) ∧ Kd.S k56 56 w' w.heap.size (fun k_ => some k_ ≠ (v1_ : Value).ownBlock) v0_ r1 ∧ Kd.R (Kd.int .i64) 3 w' w.heap.size (fun _ => True) v1_ r2 ∧ Below w.heap.size w w' := by
  unfold tribunalref07_Parse.f at h
  split at h
  · rename_i hs
    injection h with h
    have := rparse_tells A0 c0 l0 w hr0 hc0 hs.1 (fun k hk => by
      have h2 := List.all_eq_true.1 hs.2 (l0[k]) (List.getElem_mem hk)
      unfold rd_T37
      simp only [Int.toNat_natCast, List.getD_eq_getElem?_getD, List.getElem?_eq_getElem hk, Option.getD_some]
      exact of_decide_eq_true h2)
    rw [h] at this
    exact this
  · cases h
end
end Go.Proofs.YthklnopfgoekeaaGreatDoor.X
