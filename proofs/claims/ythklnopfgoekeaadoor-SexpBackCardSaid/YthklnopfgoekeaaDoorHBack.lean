/- SexpBack, the plain law: what is read, written root by root and read again, is the same but for places; it is at most twice as long. SexpBack: the law's walk: a text read, written root by root, and read again. -/
import Derived.Test.YthklnopfgoekeaaDoorPDeep
import Derived.Test.YthklnopfgoekeaaDoorPAlive
import Derived.Test.YthklnopfgoekeaaDoorHRParse
import Derived.StillTailTactics
namespace Go.Proofs.YthklnopfgoekeaaDoor.X
section
open Go.RowKit Go.Proofs.YthklnopfgoekeaaDoorW.PrintWords Go.Proofs.YthklnopfgoekeaaDoorW.PrintLast Go.Proofs.YthklnopfgoekeaaDoorW.PrintMore
set_option linter.unusedVariables false
abbrev LayT := List (Int × List UInt8 × Bool)
def tkB (t : S38) : Int × List UInt8 × Bool := (t.f0, t.f1.data.toList, t.f2)
def endB2 : Int × List UInt8 × Bool := (2, [41], false)
/-- The tokens of node i. -/
def btL (l : List S57) : Nat → Int → LayT
  | 0, _ => []
  | d + 1, i => if (rd_T57 l i).f0 = 1 then [tkB (rd_T57 l i).f1] else tkB (rd_T57 l i).f1 :: ((rd_T57 l i).f2.flatMap (btL l d) ++ [endB2])
def btN (l : List S57) (i : Nat) : LayT := btL l (i + 1) (i : Int)
theorem flat_congr {α β : Type} {f g : α → List β} : ∀ (ks : List α), (∀ k ∈ ks, f k = g k) → ks.flatMap f = ks.flatMap g
  | [], _ => rfl
  | k :: ks, h => by rw [List.flatMap_cons, List.flatMap_cons, h k (List.mem_cons_self ..), flat_congr ks (fun k hk => h k (List.mem_cons_of_mem _ hk))]
theorem bt_deep {l : List S57} {m : List Bool} {N : Nat} (h : Clo l m N) : ∀ (i : Nat), i < N → m.getD i false = true → ∀ d, i < d → btL l d (i : Int) = btN l i := by
  intro i
  induction i using Nat.strongRecOn with
  | _ i ih =>
    intro hi hm d hd
    obtain ⟨d, rfl⟩ : ∃ e, d = e + 1 := ⟨d - 1, by omega⟩
    rw [btN, btL, btL, rd57_nd]
    by_cases h1 : (nd l i).f0 = 1
    · rw [if_pos h1, if_pos h1]
    · obtain ⟨_, hk⟩ := ok_kids (h.ok i hi hm) h1
      rw [if_neg h1, if_neg h1, flat_congr (g := btL l i)]
      intro k hkm
      have hk1 := hk k hkm
      have hk2 := h.kid i hi hm h1 k hkm
      obtain ⟨n, rfl⟩ : ∃ n : Nat, k = (n : Int) := ⟨k.toNat, by omega⟩
      rw [Int.toNat_natCast] at hk2
      rw [ih n (by omega) (by omega) hk2 d (by omega), ih n (by omega) (by omega) hk2 i (by omega)]
theorem bt_atom {l : List S57} {i : Nat} (h1 : (nd l i).f0 = 1) : btN l i = [tkB (nd l i).f1] := by
  rw [btN, btL, rd57_nd, if_pos h1]
theorem bt_list {l : List S57} {m : List Bool} {N : Nat} (h : Clo l m N) {i : Nat} (hi : i < N) (hm : m.getD i false = true) (h1 : (nd l i).f0 ≠ 1) : btN l i = tkB (nd l i).f1 :: ((nd l i).f2.flatMap (fun k => btN l k.toNat) ++ [endB2]) := by
  obtain ⟨_, hk⟩ := ok_kids (h.ok i hi hm) h1
  rw [btN, btL, rd57_nd, if_neg h1, flat_congr (g := fun k => btN l k.toNat)]
  intro k hkm
  have hk1 := hk k hkm
  have hk2 := h.kid i hi hm h1 k hkm
  obtain ⟨n, rfl⟩ : ∃ n : Nat, k = (n : Int) := ⟨k.toNat, by omega⟩
  rw [Int.toNat_natCast] at hk2 ⊢
  exact bt_deep h n (by omega) hk2 i (by omega)
theorem put_fst (nodes : List S57) (roots : List Int) (stk : Stk) (n : S57) : (putP nodes roots stk n).1 = nodes ++ [n] := by
  rcases nil_or_snoc stk with rfl | ⟨init, g, rfl⟩
  · rw [putP_nil]
  · rw [putP_snoc]
theorem go_prefix : ∀ (l : List S38) (nodes : List S57) (roots : List Int) (stk : Stk), (parseGo l nodes roots stk).2.2.2.2 = 0 → ∃ X, (parseGo l nodes roots stk).1 = nodes ++ X
  | [], nodes, roots, stk, h => by
    rcases nil_or_snoc stk with rfl | ⟨init, g, rfl⟩
    · exact ⟨[], by rw [List.append_nil]; rfl⟩
    · rw [parseGo, List.getLast?_concat] at h
      exact absurd h (by decide : ¬ (71 : Int) = 0)
  | t :: ts, nodes, roots, stk, h => by
    obtain ⟨x, f, hw⟩ : ∃ x f, writeR t.f0 t.f1 t.f2 = (x, f) := ⟨_, _, rfl⟩
    cases hf : (f != 0) with
    | true => rw [parse_bad hw hf] at h; exact absurd h (by decide : ¬ (73 : Int) = 0)
    | false =>
      by_cases h1 : t.f0 = 1
      · by_cases hd : 4096 ≤ stk.length
        · rw [parse_deep hw hf h1 hd] at h; exact absurd h (by decide : ¬ (72 : Int) = 0)
        · rw [parse_push hw hf h1 hd] at h ⊢
          exact go_prefix ts _ _ _ h
      · by_cases h2 : t.f0 = 2
        · rcases nil_or_snoc stk with rfl | ⟨init, g, rfl⟩
          · rw [parse_close0 hw hf h2] at h; exact absurd h (by decide : ¬ (70 : Int) = 0)
          · rw [parse_close (nodes' := (putP nodes roots init ⟨2, g.1, g.2⟩).1) (roots' := (putP nodes roots init ⟨2, g.1, g.2⟩).2.1) (stk' := (putP nodes roots init ⟨2, g.1, g.2⟩).2.2) hw hf h2 rfl] at h ⊢
            obtain ⟨X, hX⟩ := go_prefix ts _ _ _ h
            exact ⟨[⟨2, g.1, g.2⟩] ++ X, by rw [hX, put_fst, List.append_assoc]⟩
        · rw [parse_atom (nodes' := (putP nodes roots stk ⟨1, t, []⟩).1) (roots' := (putP nodes roots stk ⟨1, t, []⟩).2.1) (stk' := (putP nodes roots stk ⟨1, t, []⟩).2.2) hw hf h1 h2 rfl] at h ⊢
          obtain ⟨X, hX⟩ := go_prefix ts _ _ _ h
          exact ⟨[⟨1, t, []⟩] ++ X, by rw [hX, put_fst, List.append_assoc]⟩
theorem nd_mid (nodes : List S57) (n : S57) (X : List S57) : nd ((nodes ++ [n]) ++ X) nodes.length = n := by
  simp [nd, List.getD_eq_getElem?_getD]
theorem lex_close {w : List UInt8} {k : Int} {tx : List UInt8} {q : Bool} (h : Lex w k tx q) (hk : k = 2) : tx = [41] ∧ q = false ∧ w = [41] := by
  cases h <;> first | exact ⟨rfl, rfl, rfl⟩ | exact absurd hk (by decide)
theorem lex_open {w : List UInt8} {k : Int} {tx : List UInt8} {q : Bool} (h : Lex w k tx q) (hk : k = 1) : tx = [40] ∧ q = false ∧ w = [40] := by
  cases h <;> first | exact ⟨rfl, rfl, rfl⟩ | exact absurd hk (by decide)
theorem wr_lex {t : S38} (h : (writeR t.f0 t.f1 t.f2).2 = 0) : Lex (textL t.f0 t.f1.data.toList t.f2) t.f0 t.f1.data.toList t.f2 ∧ (writeR t.f0 t.f1 t.f2).1.data.toList = textL t.f0 t.f1.data.toList t.f2 := by
  obtain ⟨t', h1, h2, h3, h4⟩ := write_back (k := t.f0) (tx := t.f1) (q := t.f2) (r := (writeR t.f0 t.f1 t.f2).1) (by rw [← h])
  have e : t.f1.data.toList = t' := by rw [h1, strOf_list]
  rw [e]
  exact ⟨h2, by rw [h4, strOf_list]⟩
theorem close_tk {t : S38} (h : (writeR t.f0 t.f1 t.f2).2 = 0) (h2 : t.f0 = 2) : tkB t = endB2 := by
  obtain ⟨e1, e2, _⟩ := lex_close (wr_lex h).1 h2
  rw [tkB, e1, e2, h2]
  rfl
theorem open_tk {t : S38} (h : (writeR t.f0 t.f1 t.f2).2 = 0) (h2 : t.f0 = 1) : tkB t = (1, [40], false) := by
  obtain ⟨e1, e2, _⟩ := lex_open (wr_lex h).1 h2
  rw [tkB, e1, e2, h2]
def sB (F : List S57) (g : S38 × List Int) : LayT := tkB g.1 :: g.2.flatMap (fun k => btN F k.toNat)
theorem nat_flat (F : List S57) (n : Nat) : [(n : Int)].flatMap (fun k => btN F k.toNat) = btN F n := by simp
/-- A node put: what it is made of stands where it is named. -/
theorem put_flat {F : List S57} {nodes : List S57} {roots : List Int} {stk : Stk} {n : S57} (u : LayT) (hu : btN F nodes.length = u) : (putP nodes roots stk n).2.1.flatMap (fun k => btN F k.toNat) ++ (putP nodes roots stk n).2.2.flatMap (sB F) = roots.flatMap (fun k => btN F k.toNat) ++ (stk.flatMap (sB F) ++ u) := by
  rcases nil_or_snoc stk with rfl | ⟨init, g, rfl⟩
  · rw [putP_nil]
    simp [hu]
  · rw [putP_snoc]
    simp [sB, hu]
theorem go_flat {F : List S57} {R : List Int} {m : List Bool} (hC : Clo F m F.length) (hm : ∀ i, i < F.length → m.getD i false = true) : ∀ (l : List S38) (nodes : List S57) (roots : List Int) (stk : Stk), (parseGo l nodes roots stk).1 = F → (parseGo l nodes roots stk).2.1 = R → (parseGo l nodes roots stk).2.2.2.2 = 0 →
    roots.flatMap (fun k => btN F k.toNat) ++ (stk.flatMap (sB F) ++ l.map tkB) = R.flatMap (fun k => btN F k.toNat)
  | [], nodes, roots, stk, hF, hR, h => by
    rcases nil_or_snoc stk with rfl | ⟨init, g, rfl⟩
    · have e : roots = R := hR
      rw [e]
      simp
    · rw [parseGo, List.getLast?_concat] at h
      exact absurd h (by decide : ¬ (71 : Int) = 0)
  | t :: ts, nodes, roots, stk, hF, hR, h => by
    obtain ⟨x, f, hw⟩ : ∃ x f, writeR t.f0 t.f1 t.f2 = (x, f) := ⟨_, _, rfl⟩
    cases hf : (f != 0) with
    | true => rw [parse_bad hw hf] at h; exact absurd h (by decide : ¬ (73 : Int) = 0)
    | false =>
      have hwr : (writeR t.f0 t.f1 t.f2).2 = 0 := by rw [hw]; simpa using hf
      by_cases h1 : t.f0 = 1
      · by_cases hd : 4096 ≤ stk.length
        · rw [parse_deep hw hf h1 hd] at h; exact absurd h (by decide : ¬ (72 : Int) = 0)
        · rw [parse_push hw hf h1 hd] at h hF hR
          rw [← go_flat hC hm ts _ _ _ hF hR h]
          simp [sB]
      · by_cases h2 : t.f0 = 2
        · rcases nil_or_snoc stk with rfl | ⟨init, g, rfl⟩
          · rw [parse_close0 hw hf h2] at h; exact absurd h (by decide : ¬ (70 : Int) = 0)
          · rw [parse_close (nodes' := (putP nodes roots init ⟨2, g.1, g.2⟩).1) (roots' := (putP nodes roots init ⟨2, g.1, g.2⟩).2.1) (stk' := (putP nodes roots init ⟨2, g.1, g.2⟩).2.2) hw hf h2 rfl] at h hF hR
            obtain ⟨X, hX⟩ := go_prefix ts _ _ _ h
            rw [hF, put_fst] at hX
            have hn : nd F nodes.length = ⟨2, g.1, g.2⟩ := by rw [hX]; exact nd_mid _ _ _
            have hlt : nodes.length < F.length := by rw [hX]; simp
            have hb : btN F nodes.length = sB F g ++ [tkB t] := by
              rw [bt_list hC hlt (hm _ hlt) (by rw [hn]; show ¬ (2 : Int) = 1; decide), hn, close_tk hwr h2]
              rfl
            have hp := put_flat (F := F) (nodes := nodes) (roots := roots) (stk := init) (n := ⟨2, g.1, g.2⟩) _ hb
            have ih := go_flat hC hm ts _ _ _ hF hR h
            rw [← List.append_assoc, hp] at ih
            rw [← ih]
            simp
        · rw [parse_atom (nodes' := (putP nodes roots stk ⟨1, t, []⟩).1) (roots' := (putP nodes roots stk ⟨1, t, []⟩).2.1) (stk' := (putP nodes roots stk ⟨1, t, []⟩).2.2) hw hf h1 h2 rfl] at h hF hR
          obtain ⟨X, hX⟩ := go_prefix ts _ _ _ h
          rw [hF, put_fst] at hX
          have hn : nd F nodes.length = ⟨1, t, []⟩ := by rw [hX]; exact nd_mid _ _ _
          have hb : btN F nodes.length = [tkB t] := by
            rw [bt_atom (by rw [hn]), hn]
          have hp := put_flat (F := F) (nodes := nodes) (roots := roots) (stk := stk) (n := ⟨1, t, []⟩) _ hb
          have ih := go_flat hC hm ts _ _ _ hF hR h
          rw [← List.append_assoc, hp] at ih
          rw [← ih]
          simp
/-- May the text stand before a blank or a closing parenthesis? -/
def headB (c : UInt8) : Prop := c = 32 ∨ c = 41
theorem head_end {c : UInt8} (h : headB c) : c ≠ 34 ∧ endC (classI (by8 c)) = true := by
  rcases h with rfl | rfl <;> exact ⟨by decide, by decide⟩
theorem fol_hd {k : Int} {q : Bool} {c : UInt8} {r : List UInt8} (h : c ≠ 34 ∧ endC (classI (by8 c)) = true) : folB k q (c :: r) = true := by
  unfold folB
  split
  · rfl
  · split
    · exact bne_iff_ne.2 (fun e => h.1 (by8_34.1 e))
    · exact h.2
/-- Sound nodes whose tokens are written: all of them. -/
structure AllN (F : List S57) : Prop where
  clo : Clo F (List.replicate F.length true) F.length
  nok : ∀ i, i < F.length → NOk (fun t => t.f1.size ≤ 1099511627776) (nd F i)
def LayN (us : LayT) (w : List UInt8) : Prop := ∀ (c : UInt8) (r : List UInt8) (ts : LayT), headB c → Layout (c :: r) ts → Layout (w ++ c :: r) (us ++ ts)
theorem lay_kids {f : Int → List UInt8} {b : Int → LayT} {r : List UInt8} {ts : LayT} : ∀ (ks : List Int) (first : Bool), (∀ k ∈ ks, LayN (b k) (f k)) → Layout r ts → Layout (kidsL f first ks ++ 41 :: r) (ks.flatMap b ++ (endB2 :: ts))
  | [], first, _, h => Layout.tok [41] 2 [41] false r ts .closes rfl h
  | k :: ks, first, hk, h => by
    have ih := lay_kids ks false (fun k hk' => hk k (List.mem_cons_of_mem _ hk')) h
    have hthis : Layout (f k ++ (kidsL f false ks ++ 41 :: r)) (b k ++ (ks.flatMap b ++ (endB2 :: ts))) := by
      cases ks with
      | nil => exact hk k (List.mem_cons_self ..) 41 r _ (.inr rfl) ih
      | cons k2 ks => exact hk k (List.mem_cons_self ..) 32 _ _ (.inl rfl) ih
    rw [kidsL, List.flatMap_cons]
    cases first with
    | true => simpa using hthis
    | false =>
      have := Layout.blank 32 _ _ (by decide) hthis
      simpa using this
theorem lay_node {F : List S57} (h : AllN F) : ∀ (i : Nat), i < F.length → LayN (btN F i) (txN F i) := by
  intro i
  induction i using Nat.strongRecOn with
  | _ i ih =>
    intro hi c r ts hc hr
    have hn := h.nok i hi
    by_cases h1 : (nd F i).f0 = 1
    · obtain ⟨e1, e2⟩ := wr_lex hn.wr
      rw [bt_atom h1, tx_atom h1, e2]
      exact .tok _ _ _ _ _ _ e1 (fol_hd (head_end hc)) hr
    · obtain ⟨_, hk⟩ := ok_kids (h.clo.ok i hi (all_get hi)) h1
      have ho : (nd F i).f1.f0 = 1 := by
        rcases hn.kind with ⟨h2, _⟩ | ⟨_, h2⟩
        · exact absurd h2 h1
        · exact h2
      rw [bt_list h.clo hi (all_get hi) h1, tx_list h.clo hi (all_get hi) h1, open_tk hn.wr ho]
      have := lay_kids (f := fun k => txN F k.toNat) (b := fun k => btN F k.toNat) (nd F i).f2 true (fun k hkm => by
        have hk1 := hk k hkm
        exact ih k.toNat (by omega) (by omega)) hr
      have := Layout.tok [40] 1 [40] false _ _ .opens rfl this
      simpa using this
def writtenL (F : List S57) (R : List Int) : List UInt8 := R.flatMap (fun r => txN F r.toNat ++ [32])
theorem lay_all {F : List S57} (h : AllN F) : ∀ (R : List Int), (∀ r ∈ R, 0 ≤ r ∧ r < (F.length : Int)) → Layout (writtenL F R) (R.flatMap (fun r => btN F r.toNat))
  | [], _ => .nil
  | r :: R, hr => by
    have ih := lay_all h R (fun r hr' => hr r (List.mem_cons_of_mem _ hr'))
    have h1 := hr r (List.mem_cons_self ..)
    have := lay_node h r.toNat (by omega) 32 _ _ (.inl rfl) (Layout.blank 32 _ _ (by decide) ih)
    rw [writtenL, List.flatMap_cons, List.flatMap_cons]
    rw [writtenL] at this
    simpa using this
/-- The bytes of tokens, each with a blank. -/
def wsum : LayT → Nat
  | [] => 0
  | p :: ps => (textL p.1 p.2.1 p.2.2).length + 1 + wsum ps
theorem wsum_append : ∀ (a b : LayT), wsum (a ++ b) = wsum a + wsum b
  | [], b => by rw [List.nil_append, wsum, Nat.zero_add]
  | p :: ps, b => by rw [List.cons_append, wsum, wsum, wsum_append ps b]; omega
theorem wsum_flat (b : Int → LayT) (L : Int → Nat) : ∀ (ks : List Int), (∀ k ∈ ks, L k + 1 ≤ wsum (b k)) → sumL L ks + ks.length ≤ wsum (ks.flatMap b)
  | [], _ => Nat.le_refl _
  | k :: ks, h => by
    have h1 := h k (List.mem_cons_self ..)
    have h2 := wsum_flat b L ks (fun k hk => h k (List.mem_cons_of_mem _ hk))
    rw [List.flatMap_cons, wsum_append, sumL, List.length_cons]
    omega
theorem tx_len {F : List S57} (h : AllN F) : ∀ (i : Nat), i < F.length → (txN F i).length + 1 ≤ wsum (btN F i) := by
  intro i
  induction i using Nat.strongRecOn with
  | _ i ih =>
    intro hi
    have hn := h.nok i hi
    by_cases h1 : (nd F i).f0 = 1
    · obtain ⟨e1, e2⟩ := wr_lex hn.wr
      rw [bt_atom h1, tx_atom h1, e2]
      exact Nat.le_refl _
    · obtain ⟨_, hk⟩ := ok_kids (h.clo.ok i hi (all_get hi)) h1
      have ho : (nd F i).f1.f0 = 1 := by
        rcases hn.kind with ⟨h2, _⟩ | ⟨_, h2⟩
        · exact absurd h2 h1
        · exact h2
      have hs := wsum_flat (fun k => btN F k.toNat) (fun k => (txN F k.toNat).length) (nd F i).f2 (fun k hkm => by
        have hk1 := hk k hkm
        exact ih k.toNat (by omega) (by omega))
      have hl := kidsL_len (fun k => txN F k.toNat) (nd F i).f2 true
      rw [if_pos rfl] at hl
      rw [bt_list h.clo hi (all_get hi) h1, tx_list h.clo hi (all_get hi) h1, open_tk hn.wr ho, wsum, wsum_append, List.length_cons, List.length_append, hl, List.length_singleton]
      have e1 : (textL 1 [40] false).length = 1 := by decide
      have e2 : wsum [endB2] = 2 := by decide
      rw [e1, e2]
      omega
theorem written_len {F : List S57} (h : AllN F) : ∀ (R : List Int), (∀ r ∈ R, 0 ≤ r ∧ r < (F.length : Int)) → (writtenL F R).length ≤ wsum (R.flatMap (fun r => btN F r.toNat))
  | [], _ => Nat.le_refl _
  | r :: R, hr => by
    have ih := written_len h R (fun r hr' => hr r (List.mem_cons_of_mem _ hr'))
    have h1 := hr r (List.mem_cons_self ..)
    have h2 := tx_len h r.toNat (by omega)
    rw [writtenL] at ih
    rw [writtenL, List.flatMap_cons, List.flatMap_cons, wsum_append, List.length_append, List.length_append, List.length_singleton]
    omega
theorem lay_len {l : List UInt8} {ts : LayT} (h : Layout l ts) : wsum ts ≤ 2 * l.length := by
  induction h with
  | nil => exact Nat.le_refl _
  | blank c r ts _ _ ih => rw [List.length_cons]; omega
  | comment b r ts _ _ _ ih => rw [List.length_cons, List.length_append]; omega
  | tok w k tx q r ts hl _ _ ih =>
    have h1 := (lex_canon hl).2.1
    have h2 := lex_pos hl
    rw [wsum, List.length_append]
    show (textL k tx q).length + 1 + wsum ts ≤ _
    omega
def bareN (n : S57) : Int × (Int × ByteArray × Bool) × List Int := (n.f0, bareT n.f1, n.f2)
def bareG (g : S38 × List Int) : (Int × ByteArray × Bool) × List Int := (bareT g.1, g.2)
theorem snoc_map {α β : Type} {f : α → β} {l m : List α} {a : α} (h : (l ++ [a]).map f = m.map f) : ∃ m' b, m = m' ++ [b] ∧ l.map f = m'.map f ∧ f a = f b := by
  rcases nil_or_snoc m with rfl | ⟨m', b, rfl⟩
  · have := congrArg List.length h
    simp at this
  · rw [List.map_append, List.map_append] at h
    have := List.append_inj h (by have := congrArg List.length h; simpa using this)
    refine ⟨m', b, rfl, this.1, by simpa using this.2⟩
theorem nil_map {α β : Type} {f : α → β} {m : List α} (h : ([] : List α).map f = m.map f) : m = [] := by
  have := congrArg List.length h
  exact List.eq_nil_of_length_eq_zero (by simpa using this.symm)
theorem put_bare {nodes nodes' : List S57} {roots : List Int} {stk stk' : Stk} {n n' : S57} (hn : nodes.map bareN = nodes'.map bareN) (hs : stk.map bareG = stk'.map bareG) (h : bareN n = bareN n') :
    (putP nodes roots stk n).1.map bareN = (putP nodes' roots stk' n').1.map bareN ∧ (putP nodes roots stk n).2.1 = (putP nodes' roots stk' n').2.1 ∧ (putP nodes roots stk n).2.2.map bareG = (putP nodes' roots stk' n').2.2.map bareG := by
  have hl : nodes.length = nodes'.length := by have := congrArg List.length hn; simpa using this
  rcases nil_or_snoc stk with rfl | ⟨init, g, rfl⟩
  · obtain rfl := nil_map hs
    rw [putP_nil, putP_nil, hl]
    exact ⟨by simp [hn, h], rfl, rfl⟩
  · obtain ⟨init', g', rfl, h1, h2⟩ := snoc_map hs
    injection h2 with h3 h4
    rw [putP_snoc, putP_snoc, hl]
    exact ⟨by simp [hn, h], rfl, by simp [h1, bareG, h3, h4]⟩
theorem go_bare : ∀ (l l' : List S38) (nodes nodes' : List S57) (roots : List Int) (stk stk' : Stk), l.map bareT = l'.map bareT → nodes.map bareN = nodes'.map bareN → stk.map bareG = stk'.map bareG →
    (parseGo l nodes roots stk).1.map bareN = (parseGo l' nodes' roots stk').1.map bareN ∧ (parseGo l nodes roots stk).2.1 = (parseGo l' nodes' roots stk').2.1 ∧ (parseGo l nodes roots stk).2.2.2.2 = (parseGo l' nodes' roots stk').2.2.2.2
  | [], l', nodes, nodes', roots, stk, stk', hl, hn, hs => by
    obtain rfl := nil_map hl
    rcases nil_or_snoc stk with rfl | ⟨init, g, rfl⟩
    · obtain rfl := nil_map hs
      exact ⟨hn, rfl, rfl⟩
    · obtain ⟨init', g', rfl, h1, h2⟩ := snoc_map hs
      rw [parseGo, parseGo, List.getLast?_concat, List.getLast?_concat]
      exact ⟨rfl, rfl, rfl⟩
  | t :: ts, [], nodes, nodes', roots, stk, stk', hl, hn, hs => by cases hl
  | t :: ts, t' :: ts', nodes, nodes', roots, stk, stk', hl, hn, hs => by
    rw [List.map_cons, List.map_cons] at hl
    injection hl with ht hl
    have hsl : stk.length = stk'.length := by have := congrArg List.length hs; simpa using this
    have e0 : t.f0 = t'.f0 := congrArg (fun x => x.1) ht
    have e1 : t.f1 = t'.f1 := congrArg (fun x => x.2.1) ht
    have e2 : t.f2 = t'.f2 := congrArg (fun x => x.2.2) ht
    obtain ⟨x, f, hw⟩ : ∃ x f, writeR t.f0 t.f1 t.f2 = (x, f) := ⟨_, _, rfl⟩
    have hw' : writeR t'.f0 t'.f1 t'.f2 = (x, f) := by rw [← e0, ← e1, ← e2]; exact hw
    cases hf : (f != 0) with
    | true => rw [parse_bad hw hf, parse_bad hw' hf]; exact ⟨rfl, rfl, rfl⟩
    | false =>
      by_cases h1 : t.f0 = 1
      · have h1' : t'.f0 = 1 := e0 ▸ h1
        by_cases hd : 4096 ≤ stk.length
        · rw [parse_deep hw hf h1 hd, parse_deep hw' hf h1' (by omega)]; exact ⟨rfl, rfl, rfl⟩
        · rw [parse_push hw hf h1 hd, parse_push hw' hf h1' (by omega)]
          exact go_bare ts ts' _ _ _ _ _ hl hn (by rw [List.map_append, List.map_append, hs]; simp [bareG, ht])
      · have h1' : ¬ t'.f0 = 1 := fun h => h1 (e0.trans h)
        by_cases h2 : t.f0 = 2
        · have h2' : t'.f0 = 2 := e0 ▸ h2
          rcases nil_or_snoc stk with rfl | ⟨init, g, rfl⟩
          · obtain rfl := nil_map hs
            rw [parse_close0 hw hf h2, parse_close0 hw' hf h2']; exact ⟨rfl, rfl, rfl⟩
          · obtain ⟨init', g', rfl, h3, h4⟩ := snoc_map hs
            injection h4 with h5 h6
            rw [parse_close (nodes' := (putP nodes roots init ⟨2, g.1, g.2⟩).1) (roots' := (putP nodes roots init ⟨2, g.1, g.2⟩).2.1) (stk' := (putP nodes roots init ⟨2, g.1, g.2⟩).2.2) hw hf h2 rfl,
              parse_close (nodes' := (putP nodes' roots init' ⟨2, g'.1, g'.2⟩).1) (roots' := (putP nodes' roots init' ⟨2, g'.1, g'.2⟩).2.1) (stk' := (putP nodes' roots init' ⟨2, g'.1, g'.2⟩).2.2) hw' hf h2' rfl]
            obtain ⟨p1, p2, p3⟩ := put_bare (roots := roots) (n := ⟨2, g.1, g.2⟩) (n' := ⟨2, g'.1, g'.2⟩) hn h3 (by simp [bareN, h5, h6])
            rw [p2]
            exact go_bare ts ts' _ _ _ _ _ hl p1 p3
        · have h2' : ¬ t'.f0 = 2 := fun h => h2 (e0.trans h)
          rw [parse_atom (nodes' := (putP nodes roots stk ⟨1, t, []⟩).1) (roots' := (putP nodes roots stk ⟨1, t, []⟩).2.1) (stk' := (putP nodes roots stk ⟨1, t, []⟩).2.2) hw hf h1 h2 rfl,
            parse_atom (nodes' := (putP nodes' roots stk' ⟨1, t', []⟩).1) (roots' := (putP nodes' roots stk' ⟨1, t', []⟩).2.1) (stk' := (putP nodes' roots stk' ⟨1, t', []⟩).2.2) hw' hf h1' h2' rfl]
          obtain ⟨p1, p2, p3⟩ := put_bare (roots := roots) (n := ⟨1, t, []⟩) (n' := ⟨1, t', []⟩) hn hs (by simp [bareN, ht])
          rw [p2]
          exact go_bare ts ts' _ _ _ _ _ hl p1 p3
/-- What the walk asks of a text whose reading is (n, r, 0). -/
structure BF (s : ByteArray) (n : List S57) (r : List Int) : Prop where
  small : n.length ≤ 1048577 ∧ r.length ≤ 1048577 ∧ s.size ≤ 1048576
  text : ∀ k : Nat, k < r.length → ∃ K u f, sexp_Text.f K n (rd r (k : Int)) = some (u, f) ∧ ((f = 2 ∧ 300000 < s.size) ∨ (f = 0 ∧ u = strOf (txN n (rd r (k : Int)).toNat)))
  len : (writtenL n r).length ≤ 2097152
  back : (300000 < s.size ∧ 1048576 < (writtenL n r).length) ∨ ((writtenL n r).length ≤ 1048576 ∧ ∃ m, tribunallaw07_read.f (strOf (writtenL n r)) = some (m, r, 0) ∧ m.map bareN = n.map bareN)
theorem lay_count {l : List UInt8} {ts : LayT} (h : Layout l ts) : ts.length ≤ l.length := by
  induction h with
  | nil => exact Nat.le_refl _
  | blank c r ts _ _ ih => rw [List.length_cons]; omega
  | comment b r ts _ _ _ ih => rw [List.length_cons, List.length_append]; omega
  | tok w k tx q r ts hl _ _ ih =>
    have h2 := lex_pos hl
    rw [List.length_append, List.length_cons]
    omega
theorem scan_told {s : ByteArray} {m : List S38} {a b : Int} (h : scanAll s = (m, a, b, 0)) : s.size ≤ 1048576 ∧ Layout s.data.toList (m.map tkB) := by
  unfold scanAll at h
  split at h
  · injection h with _ h; injection h with _ h; injection h with _ h; cases h
  · rename_i hs
    obtain ⟨ts, h1, h2⟩ := scan_layout s _ 0 1 1 m a b (by omega) h
    refine ⟨by omega, ?_⟩
    have e := congrArg (List.map (fun x : Int × ByteArray × Bool => ((x.1, x.2.1.data.toList, x.2.2) : Int × List UInt8 × Bool))) h2
    rw [List.map_map, List.map_map] at e
    have e1 : (fun x : Int × ByteArray × Bool => ((x.1, x.2.1.data.toList, x.2.2) : Int × List UInt8 × Bool)) ∘ bareT = tkB := rfl
    have e2 : ts.map ((fun x : Int × ByteArray × Bool => ((x.1, x.2.1.data.toList, x.2.2) : Int × List UInt8 × Bool)) ∘ strT) = ts.map id := List.map_congr_left (fun p _ => by simp [strT, strOf_list])
    rw [e1, e2, List.map_id] at e
    rw [e]
    exact h1
theorem lay_told {l : List UInt8} {ts : LayT} (h : Layout l ts) (hl : l.length ≤ 1048576) : ∃ m, scanAll (strOf l) = (m, 0, 0, 0) ∧ m.map bareT = ts.map strT := by
  have hsz : (strOf l).size = l.length := by simp [strOf, ByteArray.size]
  unfold scanAll
  rw [if_neg (by omega)]
  exact layout_scan (strOf l) _ 0 1 1 ts (by omega) (by rw [from_str]; exact h)
theorem dbl_len : ∀ t : List UInt8, t.length ≤ (dblL t).length
  | [] => Nat.le_refl _
  | c :: t => by
    have := dbl_len t
    rw [dblL]
    split <;> simp <;> omega
theorem lex_text {w : List UInt8} {k : Int} {tx : List UInt8} {q : Bool} (h : Lex w k tx q) : tx.length ≤ w.length := by
  cases h with
  | opens => exact Nat.le_refl _
  | closes => exact Nat.le_refl _
  | num w h => exact Nat.le_refl _
  | dec a b h _ _ => exact Nat.le_refl _
  | hex h _ _ => rw [Llow_length]; simp; omega
  | bin h _ _ => rw [Llow_length]; simp; omega
  | str _ _ => have := dbl_len tx; simp; omega
  | sym w _ _ => exact Nat.le_refl _
  | bar t _ => simp; omega
  | key t _ _ => simp
theorem lay_texts {l : List UInt8} {ts : LayT} (h : Layout l ts) : ∀ p ∈ ts, p.2.1.length ≤ l.length := by
  induction h with
  | nil => intro p hp; cases hp
  | blank c r ts _ _ ih => intro p hp; have := ih p hp; rw [List.length_cons]; omega
  | comment b r ts _ _ _ ih => intro p hp; have := ih p hp; rw [List.length_cons, List.length_append]; omega
  | tok w k tx q r ts hl _ _ ih =>
    intro p hp
    rw [List.length_append]
    rcases List.mem_cons.1 hp with rfl | hp
    · have := lex_text hl
      show tx.length ≤ _
      omega
    · have := ih p hp; omega
/-- Each text is read, or refused. -/
theorem read_any (s : ByteArray) : ∃ n r e, tribunallaw07_read.f s = some (n, r, e) ∧ (e ≠ 0 → n = [] ∧ r = []) := by
  obtain ⟨⟨l, a, b, c⟩, hs⟩ : ∃ x, scanAll s = x := ⟨_, rfl⟩
  by_cases hc : c = 0
  · subst hc
    obtain ⟨hsz, hlay⟩ := scan_told hs
    have hcnt := lay_count hlay
    have htx := lay_texts hlay
    have hdl : s.data.toList.length = s.size := rfl
    rw [List.length_map, hdl] at hcnt
    rw [hdl] at htx
    have hcond : l.length ≤ 1099511627776 ∧ l.all (fun t => decide (t.f1.size ≤ 1099511627776)) = true := ⟨by omega, List.all_eq_true.2 fun t ht => decide_eq_true (by
      have h1 := htx (tkB t) (List.mem_map_of_mem ht)
      have h2 : t.f1.size ≤ s.size := h1
      omega)⟩
    refine ⟨(parseR l).1, (parseR l).2.1, (parseR l).2.2.2.2, ?_, fun he => ?_⟩
    · unfold tribunallaw07_read.f lexis_Scan.f
      rw [Option.bind_some, hs]
      show (if (0 : Int) = 0 then ((sexp_Parse.f l).bind fun bt238 => (some (bt238.1, bt238.2.1, bt238.2.2.2.2))) else (some (([] : List S57), ([] : List Int), 0))) = _
      rw [if_pos rfl]
      unfold sexp_Parse.f
      rw [if_pos hcond, Option.bind_some]
    · rcases parseR_ok l with h1 | h1
      · exact absurd h1.1 he
      · exact h1.2
  · refine ⟨[], [], c, ?_, fun _ => ⟨rfl, rfl⟩⟩
    unfold tribunallaw07_read.f lexis_Scan.f
    rw [Option.bind_some, hs]
    show (if c = 0 then ((sexp_Parse.f l).bind fun bt238 => (some (bt238.1, bt238.2.1, bt238.2.2.2.2))) else (some (([] : List S57), ([] : List Int), c))) = _
    rw [if_neg hc]
theorem written_part (F : List S57) : ∀ (R : List Int) (r : Int), r ∈ R → (txN F r.toNat).length ≤ (writtenL F R).length
  | [], r, h => by cases h
  | x :: R, r, h => by
    rw [writtenL, List.flatMap_cons, List.length_append, List.length_append]
    rcases List.mem_cons.1 h with rfl | h
    · omega
    · have := written_part F R r h
      rw [writtenL] at this
      omega
theorem read_told {s : ByteArray} {n : List S57} {r : List Int} (h : tribunallaw07_read.f s = some (n, r, 0)) : ∃ (l : List S38) (a b : Int), scanAll s = (l, a, b, 0) ∧ (l.length ≤ 1099511627776 ∧ l.all (fun t => decide (t.f1.size ≤ 1099511627776)) = true) ∧ (parseR l).1 = n ∧ (parseR l).2.1 = r ∧ (parseR l).2.2.2.2 = 0 := by
  unfold tribunallaw07_read.f lexis_Scan.f at h
  rw [Option.bind_some] at h
  obtain ⟨⟨l, a, b, c⟩, hs⟩ : ∃ x, scanAll s = x := ⟨_, rfl⟩
  rw [hs] at h
  replace h : (if c = 0 then ((sexp_Parse.f l).bind fun bt238 => (some (bt238.1, bt238.2.1, bt238.2.2.2.2))) else (some (([] : List S57), ([] : List Int), c))) = some (n, r, 0) := h
  by_cases hc : c = 0
  · subst hc
    rw [if_pos rfl] at h
    unfold sexp_Parse.f at h
    by_cases hcond : l.length ≤ 1099511627776 ∧ l.all (fun t => decide (t.f1.size ≤ 1099511627776)) = true
    · rw [if_pos hcond, Option.bind_some] at h
      injection h with h
      injection h with h1 h
      injection h with h2 h3
      exact ⟨l, a, b, hs, hcond, h1, h2, h3⟩
    · rw [if_neg hcond] at h
      cases h
  · rw [if_neg hc] at h
    injection h with h
    injection h with h1 h
    injection h with h2 h3
    exact absurd h3 hc
theorem read_of {s : ByteArray} {m : List S38} {a b : Int} (h : scanAll s = (m, a, b, 0)) (hc : m.length ≤ 1099511627776 ∧ m.all (fun t => decide (t.f1.size ≤ 1099511627776)) = true) : tribunallaw07_read.f s = some ((parseR m).1, (parseR m).2.1, (parseR m).2.2.2.2) := by
  unfold tribunallaw07_read.f lexis_Scan.f
  rw [Option.bind_some, h]
  show (if (0 : Int) = 0 then ((sexp_Parse.f m).bind fun bt238 => (some (bt238.1, bt238.2.1, bt238.2.2.2.2))) else (some (([] : List S57), ([] : List Int), 0))) = _
  rw [if_pos rfl]
  unfold sexp_Parse.f
  rw [if_pos hc, Option.bind_some]
theorem back_facts {s : ByteArray} {n : List S57} {r : List Int} (h : tribunallaw07_read.f s = some (n, r, 0)) : BF s n r := by
  obtain ⟨l, a, b, hs, hcond, hn, hr, h0⟩ := read_told h
  obtain ⟨hsz, hlay⟩ := scan_told hs
  have hcnt := lay_count hlay
  have hdl : s.data.toList.length = s.size := rfl
  rw [List.length_map, hdl] at hcnt
  have hP : PN (fun t => t.f1.size ≤ 1099511627776) n r l.length := by
    rw [← hn, ← hr]
    exact parse_PN (fun t ht => of_decide_eq_true (List.all_eq_true.1 hcond.2 t ht)) h0
  have hall : ∀ j, j < n.length → okN j (nd n j) = true := fun j hj => hP.okN hj
  have hA : AllN n := ⟨clo_all hall, fun i hi => hP.ok _ (nd_mem hi)⟩
  have hM := hP.mod hcond.1
  have hrin := hP.px.rin
  obtain ⟨g1, g2, g3⟩ := hP.size
  have hflat : l.map tkB = r.flatMap (fun k => btN n k.toNat) := by
    have := go_flat (F := n) (R := r) hA.clo (fun i hi => all_get hi) l [] [] [] hn hr h0
    simpa using this
  have hwl := written_len hA r hrin
  rw [← hflat] at hwl
  have hw2 := lay_len hlay
  rw [hdl] at hw2
  refine ⟨⟨by omega, by omega, hsz⟩, fun k hk => ?_, by omega, ?_⟩
  · have hmem : rd r (k : Int) ∈ r := by
      rw [rd_nat', List.getD_eq_getElem?_getD, List.getElem?_eq_getElem hk]
      exact List.getElem_mem hk
    have hi := hrin _ hmem
    obtain ⟨i, hi'⟩ : ∃ i : Nat, rd r (k : Int) = (i : Int) := ⟨(rd r (k : Int)).toNat, by omega⟩
    rw [hi'] at hi hmem ⊢
    obtain ⟨K, hK⟩ := text_told n hM (i : Int)
    have hask := ask_all (l := n) (i := i) (by omega) hall
    have hpart := written_part n r _ hmem
    rw [textS, if_pos hask] at hK
    rw [Int.toNat_natCast] at hK hpart ⊢
    by_cases hlen : 1048576 < (txN n i).length
    · rw [if_pos hlen] at hK
      exact ⟨K, _, _, hK, .inl ⟨rfl, by omega⟩⟩
    · rw [if_neg hlen] at hK
      exact ⟨K, _, _, hK, .inr ⟨rfl, rfl⟩⟩
  · by_cases hlen : (writtenL n r).length ≤ 1048576
    · refine .inr ⟨hlen, ?_⟩
      have hlay2 := lay_all hA r hrin
      obtain ⟨m, hm, hb⟩ := lay_told hlay2 hlen
      rw [← hflat, List.map_map] at hb
      have hbb : m.map bareT = l.map bareT := by
        rw [hb]
        exact List.map_congr_left (fun t _ => by simp [strT, tkB, bareT, strOf_data])
      have hcm : m.length ≤ 1099511627776 ∧ m.all (fun t => decide (t.f1.size ≤ 1099511627776)) = true := by
        refine ⟨by have := congrArg List.length hbb; simp at this; omega, List.all_eq_true.2 fun t ht => ?_⟩
        have : bareT t ∈ l.map bareT := by rw [← hbb]; exact List.mem_map_of_mem ht
        obtain ⟨t', ht', e⟩ := List.mem_map.1 this
        have e1 : t'.f1 = t.f1 := congrArg (fun x => x.2.1) e
        rw [← e1]
        exact List.all_eq_true.1 hcond.2 t' ht'
      obtain ⟨p1, p2, p3⟩ := go_bare m l [] [] [] [] [] hbb rfl rfl
      have hrd := read_of hm hcm
      refine ⟨(parseR m).1, ?_, ?_⟩
      · rw [hrd]
        have e2 : (parseR m).2.1 = r := p2.trans hr
        have e3 : (parseR m).2.2.2.2 = 0 := p3.trans h0
        rw [e2, e3]
      · rw [← hn]
        exact p1
    · exact .inl ⟨by omega, by omega⟩
end
section
open Go.RowKit Go.Proofs.YthklnopfgoekeaaDoorW.PrintWords Go.Proofs.YthklnopfgoekeaaDoorW.PrintLast Go.Proofs.YthklnopfgoekeaaDoorW.PrintMore
set_option linter.unusedVariables false
set_option linter.unusedSimpArgs false
theorem two_of' {md : Region.Mode} {ops : Array Oper} {T : Bool × List (List Nat × List Nat)} {l li lj : Array Bool} {i j : Nat} (hT : rtab md ops = T) (h : (readyT T.2 l.toList == [i, j] && l.toList.set i true == li.toList && l.toList.set j true == lj.toList) = true) : (Region.ready md ops l == [i, j] && l.setIfInBounds i true == li && l.setIfInBounds j true == lj) = true := by
  simp only [Bool.and_eq_true] at h ⊢
  obtain ⟨⟨h1, h2⟩, h3⟩ := h
  subst hT
  exact ⟨⟨by rw [ready_eq]; exact h1, set_of h2⟩, set_of h3⟩
theorem box_step' {P : Program} {ops : Array Oper} {o : Oper} {a : Act} {Q : Exit → Act → World → Prop} {Kc : Act → World → Prop} {W : World} (hw : Region.wanted o (yielded ops a.tmps) = true) {N : Tmp} (_hd : o.dst = some N) {cs : Array Value} {t : TypeId}
    (hrun : (execOp a.eval o).run P W = .ok (.value (.pointer (some ⟨W.heap.size, 0, none⟩))) (W.alloc (.cells cs t (0, 0))))
    (h : ∀ g, g = W.heap.size → ∀ w1, w1.heap[g]? = some (.cells cs t (0, 0)) → Below W.heap.size W w1 → Kc (a.put o.dst (.pointer (some ⟨g, 0, none⟩))) w1) : if Region.wanted o (yielded ops a.tmps) = true then Oper.wp P o a W Kc Q else Kc (a.put o.dst undef) W := by
  rw [if_pos hw]
  unfold Oper.wp
  rw [hrun]
  exact h _ rfl _ (blk_new W _) (below_alloc (Below.refl _ _) _)
theorem wr_up (k : Nat) (h : k ≤ 4194304) : wrap64 ((k : Int) + 1) = (k : Int) + 1 := by unfold wrap64; omega
theorem written_next (n : List S57) (r : List Int) (k : Nat) (h : k < r.length) : writtenL n (r.take (k + 1)) = writtenL n (r.take k) ++ (txN n (rd r (k : Int)).toNat ++ [32]) := by
  have e : rd r (k : Int) = r[k] := by rw [rd_nat', List.getD_eq_getElem?_getD, List.getElem?_eq_getElem h]; rfl
  rw [List.take_add_one, List.getElem?_eq_getElem h, Option.toList_some, writtenL, writtenL, List.flatMap_append, e]
  simp
theorem written_take (n : List S57) (r : List Int) (k : Nat) : (writtenL n (r.take k)).length ≤ (writtenL n r).length := by
  have e : writtenL n r = writtenL n (r.take k) ++ writtenL n (r.drop k) := by
    rw [writtenL, writtenL, writtenL, ← List.flatMap_append, List.take_append_drop]
  rw [e, List.length_append]
  omega
theorem rd57_at' {l : List S57} {k : Nat} (h : k < l.length) : l[k]? = some (rd_T57 l (k : Int)) := by
  rw [rd57_nd, nd, List.getD_eq_getElem?_getD, List.getElem?_eq_getElem h]
  rfl
theorem str_size (l : List UInt8) : (strOf l).size = l.length := by simp [strOf, ByteArray.size]
/-- What the walk reckons where root k is written behind the others. -/
theorem back_join {s : ByteArray} {n : List S57} {r : List Int} (h : BF s n r) (k : Nat) (hk : k < r.length) : (strOf (writtenL n (r.take k)) ++ strOf (txN n (rd r (k : Int)).toNat)) ++ (⟨#[32]⟩ : ByteArray) = strOf (writtenL n (r.take (k + 1)))
    ∧ (strOf (writtenL n (r.take k))).size + (strOf (txN n (rd r (k : Int)).toNat)).size ≤ 9223372036854775807 ∧ (strOf (writtenL n (r.take k)) ++ strOf (txN n (rd r (k : Int)).toNat)).size + 1 ≤ 9223372036854775807 := by
  have h1 := written_next n r k hk
  have h2 := written_take n r (k + 1)
  have h3 := h.len
  have h4 := congrArg List.length h1
  rw [List.length_append, List.length_append, List.length_singleton] at h4
  refine ⟨?_, by rw [str_size, str_size]; omega, by rw [strOf_append, str_size, List.length_append]; omega⟩
  show _ ++ strOf [32] = _
  rw [strOf_append, strOf_append, h1, List.append_assoc]
theorem two_boxes {w : World} {gx gy : Nat} {a0 a1 a2 a3 a4 b0 b1 b2 b3 b4 : Value} (hx : w.heap[gx]? = some (.cells #[a0, a1, a2, a3, a4] 38 (0, 0))) (hy : w.heap[gy]? = some (.cells #[b0, b1, b2, b3, b4] 38 (0, 0))) (h : gy ≠ gx) (v0 v1 v2 v3 v4 u0 u1 u2 u3 u4 : Value) :
    ((((((((((w.setCell ⟨gx, 0, none⟩ v0).setCell ⟨gx, 1, none⟩ v1).setCell ⟨gx, 2, none⟩ v2).setCell ⟨gx, 3, none⟩ v3).setCell ⟨gx, 4, none⟩ v4).setCell ⟨gy, 0, none⟩ u0).setCell ⟨gy, 1, none⟩ u1).setCell ⟨gy, 2, none⟩ u2).setCell ⟨gy, 3, none⟩ u3).setCell ⟨gy, 4, none⟩ u4).heap[gx]? = some (.cells #[v0, v1, v2, v3, v4] 38 (0, 0)) ∧ ((((((((((w.setCell ⟨gx, 0, none⟩ v0).setCell ⟨gx, 1, none⟩ v1).setCell ⟨gx, 2, none⟩ v2).setCell ⟨gx, 3, none⟩ v3).setCell ⟨gx, 4, none⟩ v4).setCell ⟨gy, 0, none⟩ u0).setCell ⟨gy, 1, none⟩ u1).setCell ⟨gy, 2, none⟩ u2).setCell ⟨gy, 3, none⟩ u3).setCell ⟨gy, 4, none⟩ u4).heap[gy]? = some (.cells #[u0, u1, u2, u3, u4] 38 (0, 0)) := by
  have s1 := blk_set (blk_set (blk_set (blk_set (blk_set hx 0 v0) 1 v1) 2 v2) 3 v3) 4 v4
  have far : ∀ (w' : World) (g g' i : Nat) (u : Value), g ≠ g' → (w'.setCell ⟨g', i, none⟩ u).heap[g]? = w'.heap[g]? := fun w' g g' i u hg => Below.heap_setCell w' ⟨g', i, none⟩ u g hg
  refine ⟨?_, ?_⟩
  · rw [far _ gx gy 4 u4 h.symm, far _ gx gy 3 u3 h.symm, far _ gx gy 2 u2 h.symm, far _ gx gy 1 u1 h.symm, far _ gx gy 0 u0 h.symm]
    exact s1
  · refine blk_set (blk_set (blk_set (blk_set (blk_set (cs := #[b0, b1, b2, b3, b4]) ?_ 0 u0) 1 u1) 2 u2) 3 u3) 4 u4
    rw [far _ gy gx 4 v4 h, far _ gy gx 3 v3 h, far _ gy gx 2 v2 h, far _ gy gx 1 v1 h, far _ gy gx 0 v0 h]
    exact hy
def back_T22 : Bool × List (List Nat × List Nat) := (true, [([], []), ([], []), ([0, 1], [0, 1]), ([2], [2]), ([3], [3]), ([], []), ([], []), ([5, 6], [5, 6]), ([7], [7]), ([8], [8]), ([], []), ([], []), ([10, 4, 0, 1, 2, 3, 4, 10, 11], [4, 10]), ([11, 9, 12, 0, 1, 2, 3, 4, 5, 6, 7, 8, 9, 10, 11, 12], [9, 11])])
def back_B22 : List Nat := [0, 0, 3, 7, 15, 0, 0, 96, 224, 480, 0, 0, 3103, 8191]
theorem back_tab22 : rtab .any (opsOf Tryd.f11 22) = back_T22 := by kernel_rfl
theorem back_bits22 : waitsOk back_T22.2 back_B22 = true := by kernel_rfl
set_option maxHeartbeats 2000000 in
set_option maxRecDepth 100000 in
theorem back_walk (s : ByteArray) (w : World) :
    Calls Tryd.prog 11 #[.string s] w fun e w' => e = .returned (.bool true) ∧ Below w.heap.size w w' := by
  obtain ⟨n, r, e, hr, hne⟩ := read_any s
  have HR := Aside0.mk hr
  by_cases he : e = 0
  · subst he
    have HF := Aside0.mk (back_facts hr)
    clear hr hne
    go_enter Tryd.func11, Tryd.ntmps11
    go_wp2_with fail
    refine (tribunallaw07_read.calls s n r 0 w HR.out).mono ?_
    rintro e_ w1 ⟨v0, v1, rfl, hS, hR, hb⟩
    obtain ⟨AN, cN, rfl, hcN, hCN⟩ := Kd.S_reads hS
    obtain ⟨AR, cR, rfl, hcR, hCR⟩ := Kd.R_reads hR
    have HB1 := Aside0.mk hb
    have CN := Aside0.mk hCN
    have CR := Aside0.mk hCR
    have HcN := Aside0.mk hcN
    have HcR := Aside0.mk hcR
    clear hS hR hb hCN hCR hcN hcR
    go_wp2
    go_loopw [6, 7] (fun v i wr => ∃ (k : Nat), k ≤ r.length ∧ v = .string (strOf (writtenL n (r.take k))) ∧ i = .int .i64 k ∧ Aside0 (Below w1.heap.size w1 wr)) (fun _ i _ => r.length - (intOf i).toNat)
    case atStart => exact ⟨0, Nat.zero_le _, rfl, rfl, ⟨Below.refl _ _⟩⟩
    case round =>
      obtain ⟨k, hk, rfl, rfl, HB⟩ := hrel
      by_cases hlt : k < r.length
      · obtain ⟨K, u, f, hT, hf⟩ := HF.out.text k hlt
        obtain ⟨hj1, hj2, hj3⟩ := back_join HF.out k hlt
        have HT := Aside0.mk hT
        obtain ⟨a0, rfl, e0⟩ := Kd.at_int (Kd.C_below CR.out HB.out) k (by omega) (by omega)
        simp only [Int.toNat_natCast] at e0
        have HJ1 := Aside0.mk hj1
        have HJ2 := Aside0.mk hj2
        have HJ3 := Aside0.mk hj3
        have HW := Aside0.mk (wr_up k (by have := HF.out.small.2.1; omega))
        obtain ⟨acc, hacc⟩ : ∃ acc, acc = strOf (writtenL n (r.take k)) := ⟨_, rfl⟩
        have Hacc := Aside0.mk hacc
        rw [← hacc]
        clear hj1 hj2 hj3 hT hacc
        go_upto_region 9 with fail
        go_wp2_with fail
        refine (sexp_Text.calls K AN cN n (rd r (k : Int)) u f wr (Kd.C_below CN.out HB.out) HcN.out HT.out).mono ?_
        rintro e_ w2 ⟨rfl, hb⟩
        have HB2 := Aside0.mk (below_then HB.out HB.out.size hb)
        clear hb e0
        rcases hf with ⟨rfl, h3⟩ | ⟨rfl, rfl⟩
        · have h3' : decide ((300000 : Int) < (s.size : Int)) = true := decide_eq_true (by omega)
          go_wp2
          go_ret
          exact ⟨rfl, below_then HB1.out HB1.out.size HB2.out⟩
        · rw [← Hacc.out] at HJ1 HJ2 HJ3
          obtain ⟨u, hu⟩ : ∃ u, u = strOf (txN n (rd r (k : Int)).toNat) := ⟨_, rfl⟩
          rw [← hu] at HJ1 HJ2 HJ3 ⊢
          have j5 := HJ2.out
          have j7 : acc.size + u.size + 1 ≤ 9223372036854775807 := by have := HJ3.out; rw [ByteArray.size_append] at this; exact this
          clear hu
          go_wp2
          clear j5 j7
          go_roundw
          case rel => exact ⟨k + 1, hlt, congrArg Value.string HJ1.out, by first | rfl | exact congrArg (Value.int IntKind.i64) HW.out, HB2⟩
          case measure => rw [HW.out]; simp [intOf]; omega
      · obtain rfl : k = r.length := by omega
        rw [List.take_length]
        clear hlt hk
        obtain ⟨t, ht⟩ : ∃ t, t = strOf (writtenL n r) := ⟨_, rfl⟩
        have HTs := HF.out.back
        have hts : t.size = (writtenL n r).length := by rw [ht]; exact str_size _
        rw [← ht, ← hts] at HTs
        rw [← ht]
        have HTz := Aside0.mk hts
        clear ht hts
        rcases HTs with ⟨h3, h4⟩ | ⟨h4, m, hm, hb⟩
        · have h3' : decide ((300000 : Int) < (s.size : Int)) = true := decide_eq_true (by omega)
          have h4' : decide ((1048576 : Int) < (t.size : Int)) = true := decide_eq_true (by omega)
          go_wp2
          go_ret
          exact ⟨rfl, below_then HB1.out HB1.out.size HB.out⟩
        · have h4' : decide ((1048576 : Int) < (t.size : Int)) = false := decide_eq_false (by omega)
          have HM := Aside0.mk hm
          have HBN := Aside0.mk hb
          clear hm hb h4
          go_upto_region 16 with fail
          clear h4'
          go_wp2_with fail
          refine (tribunallaw07_read.calls t m r 0 wr HM.out).mono ?_
          rintro e_ w2 ⟨v0, v1, rfl, hS, hR, hb⟩
          obtain ⟨AM, cM, rfl, hcM, hCM⟩ := Kd.S_reads hS
          obtain ⟨AQ, cQ, rfl, hcQ, hCQ⟩ := Kd.R_reads hR
          have HB2 := Aside0.mk (below_then HB.out HB.out.size hb)
          have CM := Aside0.mk hCM
          have CQ := Aside0.mk hCQ
          have HcM := Aside0.mk hcM
          have HcQ := Aside0.mk hcQ
          have CN2 := Aside0.mk (Kd.C_below CN.out HB2.out)
          have CR2 := Aside0.mk (Kd.C_below CR.out HB2.out)
          have hlen : m.length = n.length := by have := congrArg List.length HBN.out; simpa using this
          have HLen := Aside0.mk hlen
          have hne : (((m.length : Nat) : Int) != ((n.length : Nat) : Int)) = false := bne_eq_false_iff_eq.2 (by rw [hlen])
          clear hS hR hb hCM hCQ hcM hcQ hlen HB CN CR
          go_wp2_with fail
          refine (tribunalref07_SameInts.calls AQ cQ r AR cR r true w2 CQ.out HcQ.out CR2.out HcR.out (by unfold tribunalref07_SameInts.f; rw [if_pos rfl])).mono ?_
          rintro e_ w3 ⟨rfl, hb⟩
          have HB3 := Aside0.mk (below_then HB2.out HB2.out.size hb)
          have CN3 := Aside0.mk (Kd.C_below CN2.out hb)
          have CM3 := Aside0.mk (Kd.C_below CM.out hb)
          clear hb CN2 CR2 CM CQ hne
          go_wp2
          go_loopw [13] (fun i wr => ∃ (k : Nat), k ≤ n.length ∧ i = .int .i64 k ∧ Aside0 (Below w3.heap.size w3 wr)) (fun i _ => n.length - (intOf i).toNat)
          case atStart => exact ⟨0, Nat.zero_le _, rfl, ⟨Below.refl _ _⟩⟩
          case round =>
            obtain ⟨k, hk, rfl, HB⟩ := hrel
            by_cases hlt : k < n.length
            · obtain ⟨an, A6, c6, rfl, e0, e1, e2, e3, e4, e5, e6, l6, g6⟩ := at_T57 (Kd.C_below CN3.out HB.out) k (by omega) (by omega)
              obtain ⟨am, B6, d6, rfl, f0, f1, f2, f3, f4, f5, f6, m6, j6⟩ := at_T57 (Kd.C_below CM3.out HB.out) k (by omega) (by rw [HLen.out]; omega)
              simp only [Int.toNat_natCast] at e0 e1 e2 e3 e4 e5 e6 f0 f1 f2 f3 f4 f5 f6
              have hxy : bareN (rd_T57 m (k : Int)) = bareN (rd_T57 n (k : Int)) := by
                have h1 := congrArg (fun l => l[k]?) HBN.out
                simp only [List.getElem?_map] at h1
                have hm := rd57_at' (l := m) (k := k) (by rw [HLen.out]; exact hlt)
                have hn := rd57_at' (l := n) (k := k) hlt
                rw [hm, hn] at h1
                exact Option.some.inj h1
              obtain ⟨x, hx⟩ : ∃ x, x = rd_T57 n (k : Int) := ⟨_, rfl⟩
              obtain ⟨y, hy⟩ : ∃ y, y = rd_T57 m (k : Int) := ⟨_, rfl⟩
              rw [← hx] at e0 e1 e2 e3 e4 e5 e6 l6 g6 hxy
              rw [← hy] at f0 f1 f2 f3 f4 f5 f6 m6 j6 hxy
              have HX := Aside0.mk hx
              have HY := Aside0.mk hy
              clear hx hy
              have p1 : ((0 : Int) ≤ (k : Int)) = True := eq_true (by omega)
              have q1 : ((k : Int) < (n.length : Int)) = True := eq_true (by omega)
              have q2 : ((k : Int) < (m.length : Int)) = True := eq_true (by rw [HLen.out]; omega)
              go_upto_region 22 with fail
              refine start_ (n := 14) (S := fun w' => Below wr.heap.size wr w') (ds := []) #[false, false, false, false, false, false, false, false, false, false, false, false, false, false] (by kernel_rfl) rfl rfl (below_drew_any (Below.refl _ _)) (fun hHeld => ?_); refine with_tabW back_tab22 back_bits22 (fun HT_ HW_ => ?_)
              generalize wr.drew = w45 at hHeld ⊢
              refine pure_ (i := 0) (N := some 94) (v := ?_) (a' := ?_) #[true, false, false, false, false, false, false, false, false, false, false, false, false, false] rfl rfl (any_of HT_.out (by kernel_rfl)) (fun _ _ _ h => h) (Or.inl ⟨by rfl, ?_⟩) ?_ ?_
              rotate_left
              · intro w'
                go_simp
                with_reducible rfl
              rotate_left
              · simp only [Act.put, List.setIfInBounds_toArray, List.set_cons_zero, List.set_cons_succ, i64_w, i32_w]
                rfl
              refine pure_ (i := 1) (N := some 95) (v := ?_) (a' := ?_) #[true, true, false, false, false, false, false, false, false, false, false, false, false, false] rfl rfl (any_of HT_.out (by kernel_rfl)) (fun _ _ _ h => h) (Or.inl ⟨by rfl, ?_⟩) ?_ ?_
              rotate_left
              · intro w'
                go_simp
                with_reducible rfl
              rotate_left
              · simp only [Act.put, List.setIfInBounds_toArray, List.set_cons_zero, List.set_cons_succ, i64_w, i32_w]
                rfl
              refine pure_ (i := 2) (N := some 96) (v := ?_) (a' := ?_) #[true, true, true, false, false, false, false, false, false, false, false, false, false, false] rfl rfl (any_of HT_.out (by kernel_rfl)) (fun _ _ _ h => h) (Or.inl ⟨by rfl, ?_⟩) ?_ ?_
              rotate_left
              · intro w'
                go_simp
                with_reducible rfl
              rotate_left
              · simp only [Act.put, List.setIfInBounds_toArray, List.set_cons_zero, List.set_cons_succ, i64_w, i32_w]
                rfl
              refine pure_ (i := 3) (N := some 97) (v := ?_) (a' := ?_) #[true, true, true, true, false, false, false, false, false, false, false, false, false, false] rfl rfl (any_of HT_.out (by kernel_rfl)) (fun _ _ _ h => h) (Or.inl ⟨by rfl, ?_⟩) ?_ ?_
              rotate_left
              · intro w'
                go_simp
                with_reducible rfl
              rotate_left
              · simp only [Act.put, List.setIfInBounds_toArray, List.set_cons_zero, List.set_cons_succ, i64_w, i32_w]
                rfl
              refine pure_ (i := 5) (N := some 99) (v := ?_) (a' := ?_) #[true, true, true, true, false, true, false, false, false, false, false, false, false, false] rfl rfl (any_of HT_.out (by kernel_rfl)) (fun _ _ _ h => h) (Or.inl ⟨by rfl, ?_⟩) ?_ ?_
              rotate_left
              · intro w'
                go_simp
                with_reducible rfl
              rotate_left
              · simp only [Act.put, List.setIfInBounds_toArray, List.set_cons_zero, List.set_cons_succ, i64_w, i32_w]
                rfl
              refine pure_ (i := 6) (N := some 100) (v := ?_) (a' := ?_) #[true, true, true, true, false, true, true, false, false, false, false, false, false, false] rfl rfl (any_of HT_.out (by kernel_rfl)) (fun _ _ _ h => h) (Or.inl ⟨by rfl, ?_⟩) ?_ ?_
              rotate_left
              · intro w'
                go_simp
                with_reducible rfl
              rotate_left
              · simp only [Act.put, List.setIfInBounds_toArray, List.set_cons_zero, List.set_cons_succ, i64_w, i32_w]
                rfl
              refine pure_ (i := 7) (N := some 101) (v := ?_) (a' := ?_) #[true, true, true, true, false, true, true, true, false, false, false, false, false, false] rfl rfl (any_of HT_.out (by kernel_rfl)) (fun _ _ _ h => h) (Or.inl ⟨by rfl, ?_⟩) ?_ ?_
              rotate_left
              · intro w'
                go_simp
                with_reducible rfl
              rotate_left
              · simp only [Act.put, List.setIfInBounds_toArray, List.set_cons_zero, List.set_cons_succ, i64_w, i32_w]
                rfl
              refine pure_ (i := 8) (N := some 102) (v := ?_) (a' := ?_) #[true, true, true, true, false, true, true, true, true, false, false, false, false, false] rfl rfl (any_of HT_.out (by kernel_rfl)) (fun _ _ _ h => h) (Or.inl ⟨by rfl, ?_⟩) ?_ ?_
              rotate_left
              · intro w'
                go_simp
                with_reducible rfl
              rotate_left
              · simp only [Act.put, List.setIfInBounds_toArray, List.set_cons_zero, List.set_cons_succ, i64_w, i32_w]
                rfl
              refine take_ (i := 4) (N := some 98) (v := ?_) (a' := ?_) #[true, true, true, true, true, true, true, true, true, false, false, false, false, false] rfl rfl (take_ofW HT_.out HW_.out (by kernel_rfl)) (fun _ _ _ h => h) (Or.inl ⟨by rfl, ?_⟩) hHeld ?_ ?_
              rotate_left
              · intro w' hbw
                have s1 := (hbw.cell (World.block_lt_of_cell? _ _ e1)).trans e1
                have s2 := (hbw.cell (World.block_lt_of_cell? _ _ e2)).trans e2
                have s3 := (hbw.cell (World.block_lt_of_cell? _ _ e3)).trans e3
                have s4 := (hbw.cell (World.block_lt_of_cell? _ _ e4)).trans e4
                have s5 := (hbw.cell (World.block_lt_of_cell? _ _ e5)).trans e5
                go_simp
                with_reducible rfl
              rotate_left
              · simp only [Act.put, List.setIfInBounds_toArray, List.set_cons_zero, List.set_cons_succ, i64_w, i32_w]
                rfl
              refine take_ (i := 9) (N := some 103) (v := ?_) (a' := ?_) #[true, true, true, true, true, true, true, true, true, true, false, false, false, false] rfl rfl (take_ofW HT_.out HW_.out (by kernel_rfl)) (fun _ _ _ h => h) (Or.inl ⟨by rfl, ?_⟩) hHeld ?_ ?_
              rotate_left
              · intro w' hbw
                have s1 := (hbw.cell (World.block_lt_of_cell? _ _ f1)).trans f1
                have s2 := (hbw.cell (World.block_lt_of_cell? _ _ f2)).trans f2
                have s3 := (hbw.cell (World.block_lt_of_cell? _ _ f3)).trans f3
                have s4 := (hbw.cell (World.block_lt_of_cell? _ _ f4)).trans f4
                have s5 := (hbw.cell (World.block_lt_of_cell? _ _ f5)).trans f5
                go_simp
                with_reducible rfl
              rotate_left
              · simp only [Act.put, List.setIfInBounds_toArray, List.set_cons_zero, List.set_cons_succ, i64_w, i32_w]
                rfl
              refine join_ (σ := Nat × Nat) 2 #[true, true, true, true, true, true, true, true, true, true, true, true, false, false] (fun s_ => [(14, .pointer (some ⟨s_.1, 0, none⟩)), (15, .pointer (some ⟨s_.2, 0, none⟩))]) (fun s_ w' => Below wr.heap.size wr w' ∧ w'.heap[s_.1]? = some (.cells #[.int .i64 0, .string (⟨#[]⟩ : ByteArray), .bool false, .int .i64 0, .int .i64 0] 38 (0, 0)) ∧ w'.heap[s_.2]? = some (.cells #[.int .i64 0, .string (⟨#[]⟩ : ByteArray), .bool false, .int .i64 0, .int .i64 0] 38 (0, 0)) ∧ s_.2 ≠ s_.1 ∧ s_.1 ≠ s_.2 ∧ wr.heap.size ≤ s_.1 ∧ wr.heap.size ≤ s_.2) ?_ ?_
              rotate_left
              · intro hCont
                refine two_ (i := 10) (j := 11) (Ni := some 14) (Nj := some 15) #[true, true, true, true, true, true, true, true, true, true, true, false, false, false] #[true, true, true, true, true, true, true, true, true, true, false, true, false, false] rfl rfl rfl rfl (two_of' HT_.out (by kernel_rfl)) (by decide) (by decide) (fun K hK => ?_) (fun K hK => ?_)
                · skip
                  refine box_step' ?hg (N := 14) ?hd (cs := #[.int .i64 0, .string (⟨#[]⟩ : ByteArray), .bool false, .int .i64 0, .int .i64 0]) (t := 38) ?hr ?_; (case hd => rfl); (case hg => rfl); (case hr => first | (go_simp; done) | (go_simp; rfl))
                  intro gx hg_gx w46 hbox_gx hb_gx
                  have S46 := below_then hHeld hHeld.size hb_gx
                  have GE1 : wr.heap.size ≤ gx := by rw [hg_gx]; exact hHeld.size
                  refine hK.out _ _ S46 (fun hHeld => ?_)
                  clear hK K
                  refine norm_ (a' := ?_) ?_ ?_
                  rotate_left
                  · show Act.put _ (some 14) _ = _
                    simp only [Act.put, List.setIfInBounds_toArray, List.set_cons_zero, List.set_cons_succ, i64_w, i32_w]
                    rfl
                  refine one_ (i := 11) (N := some 15) #[true, true, true, true, true, true, true, true, true, true, true, true, false, false] rfl rfl (one_of HT_.out (by kernel_rfl)) (by decide) (fun K hK => ?_)
                  refine box_step' ?hg (N := 15) ?hd (cs := #[.int .i64 0, .string (⟨#[]⟩ : ByteArray), .bool false, .int .i64 0, .int .i64 0]) (t := 38) ?hr ?_; (case hd => rfl); (case hg => rfl); (case hr => first | (go_simp; done) | (go_simp; rfl))
                  intro gy hg_gy w47 hbox_gy hb_gy
                  have S47 := below_then S46 S46.size hb_gy
                  have GE2 : wr.heap.size ≤ gy := by rw [hg_gy]; exact S46.size
                  have NE : gy ≠ gx := by have := blk_lt hbox_gx; omega
                  have BK1 := blk_below hbox_gx hb_gy
                  refine hK.out _ _ S47 (fun hHeld => ?_)
                  clear hK K
                  refine norm_ (a' := ?_) ?_ ?_
                  rotate_left
                  · show Act.put _ (some 15) _ = _
                    simp only [Act.put, List.setIfInBounds_toArray, List.set_cons_zero, List.set_cons_succ, i64_w, i32_w]
                    rfl
                  exact norm_ (by simp only [putAll, Act.put, List.setIfInBounds_toArray, List.set_cons_zero, List.set_cons_succ]) (hCont (gx, gy) _ ⟨S47, BK1, hbox_gy, NE, NE.symm, GE1, GE2⟩)
                · skip
                  refine box_step' ?hg (N := 15) ?hd (cs := #[.int .i64 0, .string (⟨#[]⟩ : ByteArray), .bool false, .int .i64 0, .int .i64 0]) (t := 38) ?hr ?_; (case hd => rfl); (case hg => rfl); (case hr => first | (go_simp; done) | (go_simp; rfl))
                  intro gy hg_gy w46 hbox_gy hb_gy
                  have S46 := below_then hHeld hHeld.size hb_gy
                  have GE1 : wr.heap.size ≤ gy := by rw [hg_gy]; exact hHeld.size
                  refine hK.out _ _ S46 (fun hHeld => ?_)
                  clear hK K
                  refine norm_ (a' := ?_) ?_ ?_
                  rotate_left
                  · show Act.put _ (some 15) _ = _
                    simp only [Act.put, List.setIfInBounds_toArray, List.set_cons_zero, List.set_cons_succ, i64_w, i32_w]
                    rfl
                  refine one_ (i := 10) (N := some 14) #[true, true, true, true, true, true, true, true, true, true, true, true, false, false] rfl rfl (one_of HT_.out (by kernel_rfl)) (by decide) (fun K hK => ?_)
                  refine box_step' ?hg (N := 14) ?hd (cs := #[.int .i64 0, .string (⟨#[]⟩ : ByteArray), .bool false, .int .i64 0, .int .i64 0]) (t := 38) ?hr ?_; (case hd => rfl); (case hg => rfl); (case hr => first | (go_simp; done) | (go_simp; rfl))
                  intro gx hg_gx w47 hbox_gx hb_gx
                  have S47 := below_then S46 S46.size hb_gx
                  have GE2 : wr.heap.size ≤ gx := by rw [hg_gx]; exact S46.size
                  have NE : gx ≠ gy := by have := blk_lt hbox_gy; omega
                  have BK1 := blk_below hbox_gy hb_gx
                  refine hK.out _ _ S47 (fun hHeld => ?_)
                  clear hK K
                  refine norm_ (a' := ?_) ?_ ?_
                  rotate_left
                  · show Act.put _ (some 14) _ = _
                    simp only [Act.put, List.setIfInBounds_toArray, List.set_cons_zero, List.set_cons_succ, i64_w, i32_w]
                    rfl
                  exact norm_ (by simp only [putAll, Act.put, List.setIfInBounds_toArray, List.set_cons_zero, List.set_cons_succ]) (hCont (gx, gy) _ ⟨S47, hbox_gx, BK1, NE.symm, NE, GE2, GE1⟩)
              rintro ⟨gx, gy⟩ w48 ⟨hHeld, BX, BY, NE1, NE2, GX, GY⟩
              dsimp only at BX BY NE1 NE2 GX GY
              refine norm_ (a' := ?_) ?_ ?_
              rotate_left
              · simp only [putAll, Act.put, List.setIfInBounds_toArray, List.set_cons_zero, List.set_cons_succ]
                rfl
              refine one_ (i := 12) (N := none) #[true, true, true, true, true, true, true, true, true, true, true, true, true, false] rfl rfl (one_of HT_.out (by kernel_rfl)) (by decide) (fun K hK => ?_)
              have hgx0 : w48.cell? ⟨gx, 0, none⟩ = some (.int .i64 0) := (blk_cell BX 0).trans rfl
              have fgx0 := blk_frozen BX 0
              have hgx1 : w48.cell? ⟨gx, 1, none⟩ = some (.string (⟨#[]⟩ : ByteArray)) := (blk_cell BX 1).trans rfl
              have fgx1 := blk_frozen BX 1
              have hgx2 : w48.cell? ⟨gx, 2, none⟩ = some (.bool false) := (blk_cell BX 2).trans rfl
              have fgx2 := blk_frozen BX 2
              have hgx3 : w48.cell? ⟨gx, 3, none⟩ = some (.int .i64 0) := (blk_cell BX 3).trans rfl
              have fgx3 := blk_frozen BX 3
              have hgx4 : w48.cell? ⟨gx, 4, none⟩ = some (.int .i64 0) := (blk_cell BX 4).trans rfl
              have fgx4 := blk_frozen BX 4
              refine skip_ (w1 := ?_) (by rfl) rfl ?_ ?_
              rotate_left
              · go_simp
                rfl
              refine hK.out _ _ (by first | exact (((((hHeld.setCell GX _).setCell GX _).setCell GX _).setCell GX _).setCell GX _)) (fun hHeld => ?_)
              clear hK K
              refine one_ (i := 13) (N := none) #[true, true, true, true, true, true, true, true, true, true, true, true, true, true] rfl rfl (one_of HT_.out (by kernel_rfl)) (by decide) (fun K hK => ?_)
              have hgy0 : w48.cell? ⟨gy, 0, none⟩ = some (.int .i64 0) := (blk_cell BY 0).trans rfl
              have fgy0 := blk_frozen BY 0
              have hgy1 : w48.cell? ⟨gy, 1, none⟩ = some (.string (⟨#[]⟩ : ByteArray)) := (blk_cell BY 1).trans rfl
              have fgy1 := blk_frozen BY 1
              have hgy2 : w48.cell? ⟨gy, 2, none⟩ = some (.bool false) := (blk_cell BY 2).trans rfl
              have fgy2 := blk_frozen BY 2
              have hgy3 : w48.cell? ⟨gy, 3, none⟩ = some (.int .i64 0) := (blk_cell BY 3).trans rfl
              have fgy3 := blk_frozen BY 3
              have hgy4 : w48.cell? ⟨gy, 4, none⟩ = some (.int .i64 0) := (blk_cell BY 4).trans rfl
              have fgy4 := blk_frozen BY 4
              refine skip_ (w1 := ?_) (by rfl) rfl ?_ ?_
              rotate_left
              · go_simp
                rfl
              refine hK.out _ _ (by first | exact (((((hHeld.setCell GY _).setCell GY _).setCell GY _).setCell GY _).setCell GY _)) (fun hHeld => ?_)
              clear hK K
              refine done_ (done_of HT_.out (by kernel_rfl)) ?_

              obtain ⟨hX9, hY9⟩ := two_boxes BX BY NE1 (.int .i64 x.f1.f0) (.string x.f1.f1) (.bool x.f1.f2) (.int .i64 x.f1.f3) (.int .i64 x.f1.f4) (.int .i64 y.f1.f0) (.string y.f1.f1) (.bool y.f1.f2) (.int .i64 y.f1.f3) (.int .i64 y.f1.f4)
              obtain ⟨w9, hw9⟩ : ∃ w9, w9 = ((((((((((w48.setCell ⟨gx, 0, none⟩ (.int .i64 x.f1.f0)).setCell ⟨gx, 1, none⟩ (.string x.f1.f1)).setCell ⟨gx, 2, none⟩ (.bool x.f1.f2)).setCell ⟨gx, 3, none⟩ (.int .i64 x.f1.f3)).setCell ⟨gx, 4, none⟩ (.int .i64 x.f1.f4)).setCell ⟨gy, 0, none⟩ (.int .i64 y.f1.f0)).setCell ⟨gy, 1, none⟩ (.string y.f1.f1)).setCell ⟨gy, 2, none⟩ (.bool y.f1.f2)).setCell ⟨gy, 3, none⟩ (.int .i64 y.f1.f3)).setCell ⟨gy, 4, none⟩ (.int .i64 y.f1.f4)) := ⟨_, rfl⟩
              have HB9 : Aside0 (Below w3.heap.size w3 w9) := ⟨by rw [hw9]; exact below_then HB.out HB.out.size hHeld⟩
              rw [← hw9] at hX9 hY9 ⊢
              clear hw9 hHeld BX BY NE1 NE2 GX GY HT_ HW_ hgx0 hgx1 hgx2 hgx3 hgx4 hgy0 hgy1 hgy2 hgy3 hgy4 fgx0 fgx1 fgx2 fgx3 fgx4 fgy0 fgy1 fgy2 fgy3 fgy4 e0 e1 e2 e3 e4 e5 e6 l6 g6 f0 f1 f2 f3 f4 f5 f6 m6 j6
              have y0 : y.f0 = x.f0 := congrArg (fun z => z.1) hxy
              have y1 : y.f1.f0 = x.f1.f0 := congrArg (fun z => z.2.1.1) hxy
              have y2 : y.f1.f1 = x.f1.f1 := congrArg (fun z => z.2.1.2.1) hxy
              have y3 : y.f1.f2 = x.f1.f2 := congrArg (fun z => z.2.1.2.2) hxy
              have y4 : y.f2 = x.f2 := congrArg (fun z => z.2.2) hxy
              obtain ⟨an', A6, c6, hA, e0, e1, e2, e3, e4, e5, e6, l6, g6⟩ := at_T57 (Kd.C_below CN3.out HB9.out) k (by omega) (by omega)
              injection hA with hA
              subst hA
              obtain ⟨am', B6, d6, hA, f0, f1, f2, f3, f4, f5, f6, m6, j6⟩ := at_T57 (Kd.C_below CM3.out HB9.out) k (by omega) (by rw [HLen.out]; omega)
              injection hA with hA
              subst hA
              simp only [Int.toNat_natCast] at e0 e6 f0 f6
              rw [← HX.out] at e0 e6 l6 g6
              rw [← HY.out] at f0 f6 m6 j6
              rw [y0] at f0
              rw [y4] at f6 m6 j6
              have gx0 : w9.cell? ⟨gx, 0, none⟩ = some (.int .i64 x.f1.f0) := (blk_cell hX9 0).trans rfl
              have gx1 : w9.cell? ⟨gx, 1, none⟩ = some (.string x.f1.f1) := (blk_cell hX9 1).trans rfl
              have gx2 : w9.cell? ⟨gx, 2, none⟩ = some (.bool x.f1.f2) := (blk_cell hX9 2).trans rfl
              have gy0 : w9.cell? ⟨gy, 0, none⟩ = some (.int .i64 x.f1.f0) := by rw [← y1]; exact (blk_cell hY9 0).trans rfl
              have gy1 : w9.cell? ⟨gy, 1, none⟩ = some (.string x.f1.f1) := by rw [← y2]; exact (blk_cell hY9 1).trans rfl
              have gy2 : w9.cell? ⟨gy, 2, none⟩ = some (.bool x.f1.f2) := by rw [← y3]; exact (blk_cell hY9 2).trans rfl
              have G6 := Aside0.mk g6
              have J6 := Aside0.mk j6
              have L6 := Aside0.mk l6
              have M6 := Aside0.mk m6
              clear hX9 hY9 y0 y1 y2 y3 y4 hxy e1 e2 e3 e4 e5 f1 f2 f3 f4 f5 g6 j6 l6 m6
              go_upto_region 23 with fail
              go_still_tail 43, (by kernel_rfl)
              go_wp2_with fail
              refine (tribunalref07_SameInts.calls A6 c6 x.f2 B6 d6 x.f2 true _ (by first | exact Kd.C_drew G6.out | exact Kd.C_drewN G6.out _) L6.out (by first | exact Kd.C_drew J6.out | exact Kd.C_drewN J6.out _) M6.out (by unfold tribunalref07_SameInts.f; rw [if_pos rfl])).mono ?_
              rintro e_ w10 ⟨rfl, hb⟩
              have HB10 : Aside0 (Below w3.heap.size w3 w10) := ⟨below_then (below_drew_any HB9.out) (below_drew_any HB9.out).size hb⟩
              have HWJ := Aside0.mk (wr_up k (by have := HF.out.small.1; omega))
              clear hb e0 e6 f0 f6 gx0 gx1 gx2 gy0 gy1 gy2 p1 q1 q2
              go_wp2
              go_roundw
              case rel => exact ⟨k + 1, hlt, by first | rfl | exact congrArg (Value.int IntKind.i64) HWJ.out, HB10⟩
              case measure => rw [HWJ.out]; simp [intOf]; omega
            · obtain rfl : k = n.length := by omega
              clear hlt hk
              go_wp2_with fail
              refine (tribunallaw07_alive.calls 42 true _ alive_told).mono ?_
              rintro e_ w5 ⟨rfl, hb⟩
              go_wp2
              go_ret
              exact ⟨rfl, below_then HB1.out HB1.out.size (below_then HB3.out HB3.out.size (below_then HB.out HB.out.size hb))⟩
  · have hen : (e != 0) = true := by simpa using he
    obtain ⟨rfl, rfl⟩ := hne he
    clear hr hne he
    go_enter Tryd.func11, Tryd.ntmps11
    go_wp2_with fail
    refine (tribunallaw07_read.calls s [] [] e w HR.out).mono ?_
    rintro e_ w1 ⟨v0, v1, rfl, hS, hR, hb⟩
    obtain ⟨AN, cN, rfl, _, _⟩ := Kd.S_reads hS
    obtain ⟨AR, cR, rfl, _, _⟩ := Kd.R_reads hR
    have HB1 := Aside0.mk hb
    clear hS hR hb
    go_wp2_with fail
    refine (tribunallaw07_alive.calls 42 true _ alive_told).mono ?_
    rintro e_ w2 ⟨rfl, hb⟩
    go_wp2
    go_ret
    exact ⟨rfl, below_then HB1.out HB1.out.size hb⟩
end
end Go.Proofs.YthklnopfgoekeaaDoor.X
