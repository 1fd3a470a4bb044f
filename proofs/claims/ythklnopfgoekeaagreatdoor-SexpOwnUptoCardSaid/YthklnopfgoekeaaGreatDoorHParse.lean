/- A slice that is a row of the call's own, or a full part of one (cut at its end): what it holds, cut by one, appended to. What sexp.Parse holds while it reads: nodes, roots, the lists that have not ended; how its steps move that. sexp.Parse: its closure that puts a node: into the roots, or among the kids of the last list that has not ended. sexp.Parse: the s-expressions of tokens, or the first fault. -/
import Derived.Test.YthklnopfgoekeaaGreatDoorX0
import Derived.Test.YthklnopfgoekeaaGreatDoorHBars
import Derived.Test.YthklnopfgoekeaaGreatDoorHWrite
namespace Go.Proofs.YthklnopfgoekeaaGreatDoor.X
section
open Go.RowKit Go.Proofs.YthklnopfgoekeaaGreatDoorW.PrintWords Go.Proofs.YthklnopfgoekeaaGreatDoorW.PrintLast Go.Proofs.YthklnopfgoekeaaGreatDoorW.PrintMore
set_option linter.unusedVariables false

/-- An own row, or a full part at the head of an own block. -/
def StkRow (w : World) (base : Nat) (e : TypeId) (size : Nat) (v : Value) (n : Nat) (xs : List Value) : Prop :=
  w.ownsRow base e size v n xs ∨ (xs.length = n * size ∧ n ≤ maxLen ∧ ∃ g cur, v = .slice (some ⟨g, 0, none⟩) n n ∧ base ≤ g ∧ w.heap[g]? = some (.cells cur e (0, 0)) ∧ cur.toList.take (n * size) = xs)
section
variable {w w1 : World} {base : Nat} {e : TypeId} {size n : Nat} {v : Value} {xs : List Value}
theorem StkRow.len (h : StkRow w base e size v n xs) : xs.length = n * size := by
  rcases h with h | h
  · exact h.1
  · exact h.1
theorem StkRow.form (h : StkRow w base e size v n xs) : (v = .slice none 0 0 ∧ n = 0) ∨ ∃ g cap cur, v = .slice (some ⟨g, 0, none⟩) n cap ∧ n ≤ cap ∧ cap ≤ maxLen ∧ base ≤ g ∧ w.heap[g]? = some (.cells cur e (0, 0)) ∧ cur.toList.take (n * size) = xs := by
  rcases h with h | h
  · rcases h.2 with h2 | ⟨g, cap, cur, h1, h2, h3, h4, h5, h6, h7⟩
    · exact .inl h2
    · exact .inr ⟨g, cap, cur, h1, h4, h5, h2, h3, h7⟩
  · obtain ⟨_, hm, g, cur, h1, h2, h3, h4⟩ := h
    exact .inr ⟨g, n, cur, h1, Nat.le_refl _, hm, h2, h3, h4⟩
theorem StkRow.typed (h : StkRow w base e size v n xs) (k : Nat) (hk : v.ownBlock = some k) : base ≤ k ∧ k < w.heap.size ∧ ∃ cells, w.heap[k]? = some (.cells cells e (0, 0)) := by
  rcases h.form with ⟨rfl, _⟩ | ⟨g, cap, cur, rfl, _, _, hb, hh, _⟩
  · simp [Value.ownBlock] at hk
  · have : g = k := by simpa [Value.ownBlock] using hk
    subst this
    exact ⟨hb, blk_lt hh, cur, hh⟩
theorem StkRow.move (h : StkRow w base e size v n xs) (hm : ∀ k, v.ownBlock = some k → w1.heap[k]? = w.heap[k]?) : StkRow w1 base e size v n xs := by
  rcases h with h | ⟨h1, h2, g, cur, rfl, h4, h5, h6⟩
  · exact .inl (own_move h hm)
  · exact .inr ⟨h1, h2, g, cur, rfl, h4, (hm g (by simp [Value.ownBlock])).trans h5, h6⟩
theorem StkRow.cellAt {A : Option Addr} {m cap : Nat} (h : StkRow w base e size (.slice A m cap) n xs) (hn : 0 < n) : m = n ∧ n ≤ cap ∧ ∃ g, A = some ⟨g, 0, none⟩ ∧ base ≤ g ∧ (∃ cells, w.heap[g]? = some (.cells cells e (0, 0))) ∧ ∀ j : Nat, j < n * size → w.cell? ⟨g, j, none⟩ = xs[j]? := by
  rcases h.form with ⟨_, h0⟩ | ⟨g, cap2, cur, h1, h2, h3, h4, h5, h6⟩
  · omega
  · injection h1 with a1 a2 a3
    subst a1 a2 a3
    refine ⟨rfl, h2, g, rfl, h4, ⟨cur, h5⟩, fun j hj => ?_⟩
    rw [cell_of_row w g j cur e (0, 0) h5, ← h6, List.getElem?_take, if_pos hj]
    simp
/-- A store into one of its cells. -/
theorem StkRow.stored {g m cap : Nat} (h : StkRow w base e size (.slice (some ⟨g, 0, none⟩) m cap) n xs) (j : Nat) (u : Value) :
    StkRow (w.setCell ⟨g, j, none⟩ u) base e size (.slice (some ⟨g, 0, none⟩) m cap) n (xs.set j u) := by
  rcases h with h | ⟨h1, h2, g', cur, h3, h4, h5, h6⟩
  · have hmn : m = n := by
      rcases h.2 with ⟨h', _⟩ | ⟨g', cap', cur, h', _⟩
      · cases h'
      · injection h'
    subst hmn
    exact .inl (World.ownsRow.stored h j u).1
  · injection h3 with a1 a2 a3
    injection a1 with a1
    injection a1 with a1 _ _
    subst a1 a2 a3
    refine .inr ⟨by simpa using h1, h2, g, cur.setIfInBounds j u, rfl, h4, heap_setCell_same w g j cur e u h5, ?_⟩
    rw [Array.toList_setIfInBounds, ← h6, List.take_set]
/-- Cut by one at its end, its room too. -/
theorem StkRow.pop {g m cap : Nat} (h : StkRow w base e size (.slice (some ⟨g, 0, none⟩) m cap) (n + 1) xs) : StkRow w base e size (.slice (some ⟨g, 0, none⟩) n n) n (xs.take (n * size)) := by
  have hl := h.len
  rcases h.form with ⟨h1, _⟩ | ⟨g', cap2, cur, h1, h2, h3, h4, h5, h6⟩
  · cases h1
  · injection h1 with a1 a2 a3
    injection a1 with a1
    injection a1 with a1 _ _
    subst a1 a2 a3
    have hle : n * size ≤ (n + 1) * size := Nat.mul_le_mul_right _ (Nat.le_succ n)
    refine .inr ⟨by rw [List.length_take]; omega, by omega, g, cur, rfl, h4, h5, ?_⟩
    rw [← h6, List.take_take]
    congr 1
    omega
end
section
variable {P : Program} (w : World)
/-- append to it: what comes back is a row of the call's own, in the elder block or a new one. -/
theorem run_append_stk (base : Nat) (t ty e : TypeId) (i : TypeInfo) (z : Value) (size bytes : Nat) (ht : P.underlying t = some (.slice e)) (hi : P.info? e = some i) (hz : i.zero = some z)
    (hsize : i.size = size) (hby : i.bytes = bytes) (hzs : z.cells.size = size) (hsz : 0 < size)
    (v : Value) (n : Nat) (xs : List Value) (hown : StkRow w base e size v n xs)
    (a : Addr) (m c : Nat) (news : List Value) (hl : news.length = m * size) (hnews : ∀ j u, news[j]? = some u → w.cell? (a.add j) = some u) (h1 : ∀ u ∈ news, u.oneCell' = true)
    (hm0 : 0 < m) (h63 : n + m ≤ maxLen) (hbytes : (n + m) * bytes ≤ 140737488355328) (hbase : base ≤ w.heap.size) :
    ∃ v' w', (Builtin.append_ #[t, t] ty #[v, .slice (some a) m c]).run P w = .ok v' w' ∧ w'.ownsRow base e size v' (n + m) (xs ++ news) ∧ w.grownBy w' v.ownBlock ∧ (v'.ownBlock = v.ownBlock ∨ v'.ownBlock = some w.heap.size) := by
  rcases hown with hown | ⟨hx, hnm, g, cur, rfl, hbg, hg, htake⟩
  · obtain ⟨v', w', hr, h2, h3, _, h5⟩ := run_append_own_at (P := P) w base t ty e i z size bytes ht hi hz hsize hby hzs hsz v n xs hown a m c news hl hnews h1 h63 hbytes hbase
    exact ⟨v', w', hr, h2, h3, h5⟩
  · subst hsize
    subst hby
    have hsmall : n + m ≤ 9223372036854775807 := by simp only [maxLen] at h63; omega
    have hlen : (xs ++ news).length = (n + m) * i.size := by rw [List.length_append, hx, hl, Nat.add_mul]
    have holds : ∀ j u, xs[j]? = some u → w.cell? ((⟨g, 0, none⟩ : Addr).add j) = some u := by
      intro j u hj
      have hjl : j < n * i.size := by rw [← hx]; exact (List.getElem?_eq_some_iff.1 hj).1
      have e0 : (⟨g, 0, none⟩ : Addr).add j = ⟨g, j, none⟩ := by
        cases j <;> simp [Addr.add]
      rw [e0, cell_of_row w g j cur e (0, 0) hg]
      rw [← htake, List.getElem?_take, if_pos hjl] at hj
      simpa using hj
    have hr := run_append_grow (P := P) w t ty e i z ht hi hz ⟨g, 0, none⟩ n n xs hx holds a m c news hl hnews (by omega) (by omega) (growslice_fits (by omega) hbytes)
    have hge := grownCap_ge w (n + m) n e
    have hcm : grownCap w (n + m) n e ≤ maxLen := grownCap_le_maxLen w (n + m) n e h63
    refine ⟨_, _, hr, ⟨hlen, .inr ⟨w.heap.size, _, _, rfl, hbase, heap_alloc_new w.drew _, hge, hcm, ?_, ?_⟩⟩, ⟨rfl, rfl, rfl, by simp, fun k hk _ => heap_alloc_old w.drew _ hk⟩, .inr rfl⟩
    · simp only [Array.size_append, List.size_toArray, size_zeroCells, hzs, hx, hl, ← Nat.add_mul]
      congr 1
      omega
    · simp only [Array.toList_append, List.append_assoc]
      rw [← List.append_assoc, ← hlen]
      exact List.take_left
end
section
variable {P : Program} {ops : Array Oper} {rest : List Oper} {o : Oper} {a : Act} {Q : Exit → Act → World → Prop}
/-- append(v, x), x of several cells; behind 'at_builtin'; the goal's world is 'W.alloc' of the variadic's box. -/
theorem stk_append {w0 W : World} (base : Nat) (hgd : o.guard = none) (s x : Operand) (t e : TypeId) (z : Value) (size bytes : Nat)
    (ho : o.op = .call { callee := .builtin .append, args := #[s, x], argTypes := #[t, t] })
    (ht : P.underlying t = some (.slice e)) (hinfo : (P.info? e).map (fun i => (i.zero, i.size, i.bytes)) = some (some z, size, bytes)) (hz : z.cells.size = size) (hs0 : 0 < size) (hb0 : 0 < bytes)
    (v : Value) (n : Nat) (xs ys : List Value) (hs : a.eval s = v) (hx : a.eval x = .slice (some ⟨W.heap.size, 0, none⟩) 1 1) (hys : ys.length = size) (h1 : ∀ u ∈ ys, u.oneCell' = true)
    (HO : StkRow W base e size v n xs) (HB : Below base w0 W) (hbase : base ≤ W.heap.size) (hl : (n + 1) * bytes ≤ 140737488355328)
    (h : ∀ v1 w1, w1.ownsRow base e size v1 (n + 1) (xs ++ ys) → Below base w0 w1 → W.grownBy w1 v.ownBlock → (v1.ownBlock = v.ownBlock ∨ ∃ b, v1.ownBlock = some b ∧ W.heap.size ≤ b) → wpList P ops Q rest (a.put o.dst v1) w1) :
    wpList P ops Q (o :: rest) a (W.alloc (.cells ys.toArray e)) := by
  obtain ⟨i0, hi, hzz⟩ := Option.map_eq_some_iff.1 hinfo
  simp only [Prod.mk.injEq] at hzz
  obtain ⟨hz0, hz1, hz2⟩ := hzz
  have hlen : n + 1 ≤ 140737488355328 := Nat.le_trans (Nat.le_mul_of_pos_right _ hb0) hl
  have HO2 : StkRow (W.alloc (.cells ys.toArray e)) base e size v n xs := HO.move (fun k hk => heap_alloc_old W _ (HO.typed k hk).2.1)
  have hown0 : ∀ k, v.ownBlock = some k → base ≤ k := fun k hk => (HO.typed k hk).1
  refine wpList_plain hgd fun K hK => ?_
  obtain ⟨v', w', hr, h2, h3, h5⟩ := run_append_stk (P := P) (W.alloc (.cells ys.toArray e)) base t o.type e i0 z size bytes ht hi hz0 hz1 hz2 hz hs0 v n xs HO2 ⟨W.heap.size, 0, none⟩ 1 1 ys (by rw [hys]; simp)
    (by simpa using World.news_of_block (cs := ys.toArray) (t := e) (fr := (0, 0)) (heap_alloc_new W (.cells ys.toArray e))) h1 (by omega) (by simp only [maxLen]; omega) hl (by simp; omega)
  unfold Oper.wp execOp
  simp only [ho, resolve, invoke, builtin, Sem.run_bind, Sem.run_pure, Result.andThen_ok, List.map_toArray, List.map_cons, List.map_nil, hs, hx, hr]
  refine hK _ _ (h v' w' h2 ((HB.alloc hbase _).grown h3 (by simp; omega) hown0) (World.grownBy.trans (World.grownBy_alloc W _ _) h3) ?_)
  rcases h5 with h5 | h5
  · exact .inl h5
  · exact .inr ⟨_, h5, by simp⟩
end
end
section
open Go.RowKit Go.Proofs.YthklnopfgoekeaaGreatDoorW.PrintWords Go.Proofs.YthklnopfgoekeaaGreatDoorW.PrintLast Go.Proofs.YthklnopfgoekeaaGreatDoorW.PrintMore
set_option linter.unusedVariables false

/-- A list that has not ended: its open bracket, its kids, and where they lie. -/
structure Opn where
  tok : S37
  kids : List Int
  val : Value
abbrev KI : Kd Int := Kd.int .i64
def tokC (t : S37) : List Value := [.int .i64 t.f0, .string t.f1, .bool t.f2, .int .i64 t.f3, .int .i64 t.f4]
def opnC (o : Opn) : List Value := tokC o.tok ++ [o.val]
def flatO (st : List Opn) : List Value := st.flatMap opnC
/-- No list of the stack has its kids there. -/
def freeOf (st : List Opn) (k : Nat) : Prop := ∀ g ∈ st, g.val.ownBlock ≠ some k
theorem flatO_length : ∀ st : List Opn, (flatO st).length = st.length * 6
  | [] => rfl
  | g :: st => by
    have ih := flatO_length st
    unfold flatO at ih ⊢
    rw [List.flatMap_cons, List.length_append, ih, List.length_cons]
    show 6 + _ = _
    omega
theorem flatO_snoc (st : List Opn) (g : Opn) : flatO (st ++ [g]) = flatO st ++ opnC g := by
  unfold flatO
  rw [List.flatMap_append]
  simp
/-- A row moves with the blocks of its types. -/
theorem R_typ {α : Type} {d : Kd α} {e : Nat} {w w1 : World} {base : Nat} {ok : Nat → Prop} {v : Value} {xs : List α} (h : d.R e w base ok v xs) (hm : ∀ (k : Nat) (cells : Array Value) (q : TypeId), ok k → q ∈ e :: d.E → w.heap[k]? = some (.cells cells q (0, 0)) → w1.heap[k]? = w.heap[k]?) : d.R e w1 base ok v xs :=
  Kd.R_mono (Kd.R_move (Kd.R_bound h) (fun k hk => by obtain ⟨h1, _, _, q, hq, cells, hc⟩ := hk; exact hm k cells q h1 hq hc)) (fun _ hk => hk.1)
theorem S_typ {α : Type} {d : Kd α} {e : Nat} {w w1 : World} {base : Nat} {ok : Nat → Prop} {v : Value} {xs : List α} (h : Kd.S d e w base ok v xs) (hm : ∀ (k : Nat) (cells : Array Value) (q : TypeId), ok k → q ∈ e :: d.E → w.heap[k]? = some (.cells cells q (0, 0)) → w1.heap[k]? = w.heap[k]?) : Kd.S d e w1 base ok v xs :=
  Kd.S_mono (Kd.S_move (Kd.S_bound h) (fun k hk => by obtain ⟨h1, _, _, q, hq, cells, hc⟩ := hk; exact hm k cells q h1 hq hc)) (fun _ hk => hk.1)
theorem S_typB {α : Type} {d : Kd α} {e : Nat} {w w1 : World} {base : Nat} {ok : Nat → Prop} {v : Value} {xs : List α} (h : Kd.S d e w base ok v xs) (hm : ∀ (k : Nat) (cells : Array Value) (q : TypeId), ok k → q ∈ e :: d.E → w.heap[k]? = some (.cells cells q (0, 0)) → w1.heap[k]? = w.heap[k]?) : Kd.S d e w1 base (fun k => ok k ∧ k < w.heap.size) v xs :=
  Kd.S_mono (Kd.S_move (Kd.S_bound h) (fun k hk => by obtain ⟨h1, _, _, q, hq, cells, hc⟩ := hk; exact hm k cells q h1 hq hc)) (fun _ hk => ⟨hk.1, hk.2.2.1⟩)
theorem not_new {v v1 : Value} {n k : Nat} (hat : v1.ownBlock = v.ownBlock ∨ ∃ b, v1.ownBlock = some b ∧ n ≤ b) (hk : k < n) (h : v.ownBlock ≠ some k) : v1.ownBlock ≠ some k := by
  rcases hat with hat | ⟨b, hb, hle⟩
  · rw [hat]; exact h
  · rw [hb]
    intro e
    injection e with e
    omega
/-- All but the nodes. -/
structure PRest (w : World) (base bR bS : Nat) (roots : List Int) (st : List Opn) (vR vS : Value) : Prop where
  lR : base ≤ bR
  lS : base ≤ bS
  cR : w.heap[bR]? = some (.cells #[vR] 31 (0, 0))
  cS : w.heap[bS]? = some (.cells #[vS] 82 (0, 0))
  rR : KI.R 3 w base (fun _ => True) vR roots
  rS : StkRow w base 84 6 vS st.length (flatO st)
  rK : ∀ g ∈ st, KI.R 3 w base (fun _ => True) g.val g.kids
  dR : ∀ k, vR.ownBlock = some k → freeOf st k
  dK : st.Pairwise (fun g h => ∀ k, g.val.ownBlock = some k → h.val.ownBlock ≠ some k)
structure PSt (w0 w : World) (base bN bR bS : Nat) (nodes : List S56) (roots : List Int) (st : List Opn) (vN vR vS : Value) : Prop where
  bel : Below base w0 w
  lN : base ≤ bN
  cN : w.heap[bN]? = some (.cells #[vN] 22 (0, 0))
  rN : Kd.S k56 56 w base (fun k => freeOf st k ∧ vR.ownBlock ≠ some k) vN nodes
  rest : PRest w base bR bS roots st vR vS
theorem E57 : ∀ q, q ∈ 56 :: k56.E → q = 56 ∨ q = 3 := by
  intro q hq
  have e : (56 :: k56.E : List Nat) = [56, 3] := rfl
  rw [e] at hq
  simpa using hq
theorem EKI : ∀ q, q ∈ 3 :: KI.E → q = 3 := by
  intro q hq
  have e : (3 :: KI.E : List Nat) = [3] := rfl
  rw [e] at hq
  simpa using hq
/-- All but the nodes stands where the blocks of these types stand. -/
theorem PRest.move {w w1 : World} {base bR bS : Nat} {roots : List Int} {st : List Opn} {vR vS : Value} (h : PRest w base bR bS roots st vR vS)
    (hm : ∀ (k : Nat) (cells : Array Value) (q : TypeId), (q = 31 ∨ q = 82 ∨ q = 84 ∨ q = 3) → w.heap[k]? = some (.cells cells q (0, 0)) → w1.heap[k]? = w.heap[k]?) : PRest w1 base bR bS roots st vR vS where
  lR := h.lR
  lS := h.lS
  cR := (hm _ _ _ (.inl rfl) h.cR).trans h.cR
  cS := (hm _ _ _ (.inr (.inl rfl)) h.cS).trans h.cS
  rR := R_typ h.rR (fun k cells q _ hq hc => hm k cells q (.inr (.inr (.inr (EKI q hq)))) hc)
  rS := h.rS.move (fun k hk => by obtain ⟨_, _, cells, hc⟩ := h.rS.typed k hk; exact hm k cells 84 (.inr (.inr (.inl rfl))) hc)
  rK := fun g hg => R_typ (h.rK g hg) (fun k cells q _ hq hc => hm k cells q (.inr (.inr (.inr (EKI q hq)))) hc)
  dR := h.dR
  dK := h.dK
theorem PSt.below {w0 w w1 : World} {base bN bR bS : Nat} {nodes : List S56} {roots : List Int} {st : List Opn} {vN vR vS : Value} (h : PSt w0 w base bN bR bS nodes roots st vN vR vS) (hb : Below w.heap.size w w1) (hbase : base ≤ w.heap.size) : PSt w0 w1 base bN bR bS nodes roots st vN vR vS where
  bel := below_then h.bel hbase hb
  lN := h.lN
  cN := (hb.block _ (blk_lt h.cN)).trans h.cN
  rN := Kd.S_below h.rN hb
  rest := h.rest.move (fun k cells q _ hc => hb.block k (blk_lt hc))
theorem blk_ne {w : World} {k g : Nat} {c c' : Array Value} {q t : TypeId} (h : w.heap[k]? = some (.cells c q (0, 0))) (h' : w.heap[g]? = some (.cells c' t (0, 0))) (hne : q ≠ t) : k ≠ g := by
  rintro rfl
  rw [h] at h'
  injection h' with h'
  injection h' with _ h' _
  exact hne h'
theorem set_far {w : World} {k g j : Nat} (h : k ≠ g) (u : Value) : (w.setCell ⟨g, j, none⟩ u).heap[k]? = w.heap[k]? := Below.heap_setCell w ⟨g, j, none⟩ u k h
theorem var_set {w : World} {b : Nat} {v u : Value} {t : TypeId} (h : w.heap[b]? = some (.cells #[v] t (0, 0))) : (w.setCell ⟨b, 0, none⟩ u).heap[b]? = some (.cells #[u] t (0, 0)) := by
  have := heap_setCell_same w b 0 #[v] t u h
  simpa using this
theorem var_cell {w : World} {b : Nat} {v : Value} {t : TypeId} (h : w.heap[b]? = some (.cells #[v] t (0, 0))) : w.cell? ⟨b, 0, none⟩ = some v := by
  rw [cell_of_row w b 0 #[v] t (0, 0) h]
  rfl
theorem var_frozen {w : World} {b : Nat} {v : Value} {t : TypeId} (h : w.heap[b]? = some (.cells #[v] t (0, 0))) : w.frozen? ⟨b, 0, none⟩ = false := frozen_of_row w b 0 #[v] t h
theorem KI_typed {w : World} {base : Nat} {ok : Nat → Prop} {v : Value} {xs : List Int} (h : KI.R 3 w base ok v xs) (k : Nat) (hk : v.ownBlock = some k) : base ≤ k ∧ k < w.heap.size ∧ ∃ cells, w.heap[k]? = some (.cells cells 3 (0, 0)) := by
  obtain ⟨inner, ho⟩ := Kd.R_own h
  exact ⟨own_base ho k hk, own_lt ho k hk, own_typed ho k hk⟩
/-- 1. A node more (its kids' row is none of the stack's left, nor the roots'): behind the append and the store. -/
theorem PSt.noded {w0 w w1 : World} {base bN bR bS : Nat} {nodes nodes1 : List S56} {roots : List Int} {st st1 : List Opn} {vN vR vS v1 : Value} (h : PSt w0 w base bN bR bS nodes roots st vN vR vS)
    (hrest : PRest w base bR bS roots st1 vR vS)
    (hS : Kd.S k56 56 w1 base (fun k => freeOf st1 k ∧ vR.ownBlock ≠ some k) v1 nodes1) (hb : Below base w0 w1) (hg : w.grownBy w1 vN.ownBlock) :
    PSt w0 (w1.setCell ⟨bN, 0, none⟩ v1) base bN bR bS nodes1 roots st1 v1 vR vS := by
  have hty : ∀ (k : Nat) (cells : Array Value) (q : TypeId), q ≠ 56 → w.heap[k]? = some (.cells cells q (0, 0)) → w1.heap[k]? = w.heap[k]? := by
    intro k cells q hq hc
    refine hg.block k (blk_lt hc) ?_
    intro e
    obtain ⟨c2, hc2⟩ := Kd.S_typed h.rN k e.symm
    exact blk_ne hc hc2 hq rfl
  have cN1 : w1.heap[bN]? = some (.cells #[vN] 22 (0, 0)) := (hty bN _ 22 (by decide) h.cN).trans h.cN
  refine ⟨hb.setCell h.lN _, h.lN, var_set cN1, Kd.S_set hS cN1 (fun q hq => by rcases E57 q hq with rfl | rfl <;> decide) 0 v1, ?_⟩
  refine hrest.move (fun k cells q hq hc => ?_)
  have h1 := hty k cells q (by rcases hq with rfl | rfl | rfl | rfl <;> decide) hc
  rw [set_far (blk_ne (h1.trans hc) cN1 (by rcases hq with rfl | rfl | rfl | rfl <;> decide)), h1]
/-- 2. A root more. -/
theorem PSt.rooted {w0 w w1 : World} {base bN bR bS : Nat} {nodes : List S56} {roots roots1 : List Int} {vN vR vS v1 : Value} (h : PSt w0 w base bN bR bS nodes roots [] vN vR vS)
    (hR : KI.R 3 w1 base (fun _ => True) v1 roots1) (hb : Below base w0 w1) (hg : w.grownBy w1 vR.ownBlock) (hat : v1.ownBlock = vR.ownBlock ∨ ∃ b, v1.ownBlock = some b ∧ w.heap.size ≤ b) :
    PSt w0 (w1.setCell ⟨bR, 0, none⟩ v1) base bN bR bS nodes roots1 [] vN v1 vS := by
  have hty : ∀ (k : Nat) (cells : Array Value) (q : TypeId), (q ≠ 3 ∨ vR.ownBlock ≠ some k) → w.heap[k]? = some (.cells cells q (0, 0)) → w1.heap[k]? = w.heap[k]? := by
    intro k cells q hq hc
    refine hg.block k (blk_lt hc) ?_
    intro e
    rcases hq with hq | hq
    · obtain ⟨_, _, c2, hc2⟩ := KI_typed h.rest.rR k e.symm
      exact blk_ne hc hc2 hq rfl
    · exact hq e.symm
  have cR1 : w1.heap[bR]? = some (.cells #[vR] 31 (0, 0)) := (hty bR _ 31 (.inl (by decide)) h.rest.cR).trans h.rest.cR
  have hmv : ∀ (k : Nat) (cells : Array Value) (q : TypeId), q ≠ 31 → (q ≠ 3 ∨ vR.ownBlock ≠ some k) → w.heap[k]? = some (.cells cells q (0, 0)) → (w1.setCell ⟨bR, 0, none⟩ v1).heap[k]? = w.heap[k]? := by
    intro k cells q h45 hq hc
    have h1 := hty k cells q hq hc
    rw [set_far (blk_ne (h1.trans hc) cR1 h45), h1]
  refine ⟨hb.setCell h.rest.lR _, h.lN, (hmv bN _ 22 (by decide) (.inl (by decide)) h.cN).trans h.cN, ?_, ?_⟩
  · exact Kd.S_mono (S_typB (w1 := w1.setCell ⟨bR, 0, none⟩ v1) h.rN (fun k cells q hok hq hc => hmv k cells q (by rcases E57 q hq with rfl | rfl <;> decide) (.inr hok.2) hc)) (fun k hk => ⟨hk.1.1, not_new hat hk.2 hk.1.2⟩)
  · refine ⟨h.rest.lR, h.rest.lS, var_set cR1, (hmv bS _ 82 (by decide) (.inl (by decide)) h.rest.cS).trans h.rest.cS, Kd.R_set hR cR1 (fun q hq => by rw [EKI q hq]; decide) 0 v1, ?_, (fun g hg => by cases hg), (fun k hk g hg => by cases hg), List.Pairwise.nil⟩
    exact h.rest.rS.move (fun k hk => by obtain ⟨_, _, cells, hc⟩ := h.rest.rS.typed k hk; exact hmv k cells 84 (by decide) (.inl (by decide)) hc)
/-- The row of kids is its own block's alone. -/
theorem KI_self {w : World} {base : Nat} {ok : Nat → Prop} {v : Value} {xs : List Int} (h : KI.R 3 w base ok v xs) : KI.R 3 w base (fun k => v.ownBlock = some k) v xs := Kd.R_of_own (Kd.own_of_R h) (fun k hk => hk)
theorem flatO_set (init : List Opn) (g : Opn) (kids : List Int) (v : Value) : (flatO (init ++ [g])).set (init.length * 6 + 5) v = flatO (init ++ [⟨g.tok, kids, v⟩]) := by
  have hl := flatO_length init
  rw [flatO_snoc, flatO_snoc, List.set_append_right _ _ (by omega), show init.length * 6 + 5 - (flatO init).length = 5 by omega]
  rfl
theorem free_snoc {init : List Opn} {g : Opn} {k : Nat} : freeOf (init ++ [g]) k ↔ freeOf init k ∧ g.val.ownBlock ≠ some k := by
  unfold freeOf
  constructor
  · intro h
    exact ⟨fun a ha => h a (List.mem_append_left _ ha), h g (by simp)⟩
  · rintro ⟨h1, h2⟩ a ha
    rcases List.mem_append.1 ha with ha | ha
    · exact h1 a ha
    · rw [List.mem_singleton.1 ha]; exact h2
theorem PRest.last {w : World} {base bR bS : Nat} {roots : List Int} {init : List Opn} {g : Opn} {vR vS : Value} (h : PRest w base bR bS roots (init ++ [g]) vR vS) : ∃ gS cap cells, vS = .slice (some ⟨gS, 0, none⟩) (init.length + 1) cap ∧ init.length + 1 ≤ cap ∧ w.heap[gS]? = some (.cells cells 84 (0, 0)) := by
  have hlen : (init ++ [g]).length = init.length + 1 := by simp
  rcases h.rS.form with ⟨_, h0⟩ | ⟨gS, cap, cur, h1, h2, h3, h4, h5, h6⟩
  · omega
  · rw [hlen] at h1 h2
    exact ⟨gS, cap, cur, h1, h2, h5⟩
/-- 3. The last list has a kid more. -/
theorem PSt.kided {w0 w w1 : World} {base bN bR bS gS m cap : Nat} {nodes : List S56} {roots kids1 : List Int} {init : List Opn} {g : Opn} {vN vR v1 : Value} (h : PSt w0 w base bN bR bS nodes roots (init ++ [g]) vN vR (.slice (some ⟨gS, 0, none⟩) m cap))
    (hR : KI.R 3 w1 base (fun _ => True) v1 kids1) (hb : Below base w0 w1) (hg : w.grownBy w1 g.val.ownBlock) (hat : v1.ownBlock = g.val.ownBlock ∨ ∃ b, v1.ownBlock = some b ∧ w.heap.size ≤ b) :
    PSt w0 (w1.setCell ⟨gS, init.length * 6 + 5, none⟩ v1) base bN bR bS nodes roots (init ++ [⟨g.tok, kids1, v1⟩]) vN vR (.slice (some ⟨gS, 0, none⟩) m cap) := by
  have hgm : g ∈ init ++ [g] := by simp
  have hKg := h.rest.rK g hgm
  have hty : ∀ (k : Nat) (cells : Array Value) (q : TypeId), (q ≠ 3 ∨ g.val.ownBlock ≠ some k) → w.heap[k]? = some (.cells cells q (0, 0)) → w1.heap[k]? = w.heap[k]? := by
    intro k cells q hq hc
    refine hg.block k (blk_lt hc) ?_
    intro e
    rcases hq with hq | hq
    · obtain ⟨_, _, c2, hc2⟩ := KI_typed hKg k e.symm
      exact blk_ne hc hc2 hq rfl
    · exact hq e.symm
  obtain ⟨gS', cap', cS, e1, _, hS⟩ := h.rest.last
  injection e1 with e1 _ _
  injection e1 with e1
  injection e1 with e1 _ _
  subst e1
  have hS1 : w1.heap[gS]? = some (.cells cS 84 (0, 0)) := (hty gS _ 84 (.inl (by decide)) hS).trans hS
  have hbS : base ≤ gS := (h.rest.rS.typed gS (by simp [Value.ownBlock])).1
  have hmv : ∀ (k : Nat) (cells : Array Value) (q : TypeId), q ≠ 84 → (q ≠ 3 ∨ g.val.ownBlock ≠ some k) → w.heap[k]? = some (.cells cells q (0, 0)) → (w1.setCell ⟨gS, init.length * 6 + 5, none⟩ v1).heap[k]? = w.heap[k]? := by
    intro k cells q h88 hq hc
    have h1 := hty k cells q hq hc
    rw [set_far (blk_ne (h1.trans hc) hS1 h88), h1]
  refine ⟨hb.setCell hbS _, h.lN, (hmv bN _ 22 (by decide) (.inl (by decide)) h.cN).trans h.cN, ?_, ?_⟩
  · refine Kd.S_mono (S_typB (w1 := w1.setCell ⟨gS, init.length * 6 + 5, none⟩ v1) h.rN (fun k cells q hok hq hc => hmv k cells q (by rcases E57 q hq with rfl | rfl <;> decide) (.inr (hok.1 g hgm)) hc)) (fun k hk => ⟨?_, hk.1.2⟩)
    rw [free_snoc]
    exact ⟨(free_snoc.1 hk.1.1).1, not_new hat hk.2 (free_snoc.1 hk.1.1).2⟩
  · refine ⟨h.rest.lR, h.rest.lS, (hmv bR _ 31 (by decide) (.inl (by decide)) h.rest.cR).trans h.rest.cR, (hmv bS _ 82 (by decide) (.inl (by decide)) h.rest.cS).trans h.rest.cS, ?_, ?_, ?_, ?_, ?_⟩
    · exact Kd.R_mono (R_typ (KI_self h.rest.rR) (fun k cells q hok hq hc => hmv k cells q (by rw [EKI q hq]; decide) (.inr (h.rest.dR k hok g hgm)) hc)) (fun _ _ => trivial)
    · have h2 : StkRow w1 base 84 6 (.slice (some ⟨gS, 0, none⟩) m cap) (init ++ [g]).length (flatO (init ++ [g])) := h.rest.rS.move (fun k hk => by obtain ⟨_, _, cells, hc⟩ := h.rest.rS.typed k hk; exact hty k cells 84 (.inl (by decide)) hc)
      have h3 := h2.stored (init.length * 6 + 5) v1
      rw [flatO_set init g kids1 v1] at h3
      have e : (init ++ [g]).length = (init ++ [(⟨g.tok, kids1, v1⟩ : Opn)]).length := by simp
      rw [e] at h3
      exact h3
    · intro a ha
      rcases List.mem_append.1 ha with ha | ha
      · have hne := (List.pairwise_append.1 h.rest.dK).2.2 a ha g (by simp)
        exact Kd.R_mono (R_typ (KI_self (h.rest.rK a (List.mem_append_left _ ha))) (fun k cells q hok hq hc => hmv k cells q (by rw [EKI q hq]; decide) (.inr (hne k hok)) hc)) (fun _ _ => trivial)
      · rw [List.mem_singleton.1 ha]
        exact Kd.R_set hR hS1 (fun q hq => by rw [EKI q hq]; decide) _ v1
    · intro k hk
      rw [free_snoc]
      have h1 := free_snoc.1 (h.rest.dR k hk)
      exact ⟨h1.1, not_new hat (KI_typed h.rest.rR k hk).2.1 h1.2⟩
    · have h1 := List.pairwise_append.1 h.rest.dK
      refine List.pairwise_append.2 ⟨h1.1, List.pairwise_singleton _ _, fun a ha b hb2 => ?_⟩
      rw [List.mem_singleton.1 hb2]
      intro k hk
      exact not_new hat (KI_typed (h.rest.rK a (List.mem_append_left _ ha)) k hk).2.1 (h1.2.2 a ha g (by simp) k hk)
/-- 4. A list more. -/
theorem PSt.pushed {w0 w w1 : World} {base bN bR bS : Nat} {nodes : List S56} {roots : List Int} {st : List Opn} {t : S37} {vN vR vS v1 : Value} (h : PSt w0 w base bN bR bS nodes roots st vN vR vS)
    (hO : w1.ownsRow base 84 6 v1 (st.length + 1) (flatO st ++ opnC ⟨t, [], .slice none 0 0⟩)) (hb : Below base w0 w1) (hg : w.grownBy w1 vS.ownBlock) :
    PSt w0 (w1.setCell ⟨bS, 0, none⟩ v1) base bN bR bS nodes roots (st ++ [⟨t, [], .slice none 0 0⟩]) vN vR v1 := by
  have hty : ∀ (k : Nat) (cells : Array Value) (q : TypeId), q ≠ 84 → w.heap[k]? = some (.cells cells q (0, 0)) → w1.heap[k]? = w.heap[k]? := by
    intro k cells q hq hc
    refine hg.block k (blk_lt hc) ?_
    intro e
    obtain ⟨_, _, c2, hc2⟩ := h.rest.rS.typed k e.symm
    exact blk_ne hc hc2 hq rfl
  have cS1 : w1.heap[bS]? = some (.cells #[vS] 82 (0, 0)) := (hty bS _ 82 (by decide) h.rest.cS).trans h.rest.cS
  have hmv : ∀ (k : Nat) (cells : Array Value) (q : TypeId), q ≠ 84 → q ≠ 82 → w.heap[k]? = some (.cells cells q (0, 0)) → (w1.setCell ⟨bS, 0, none⟩ v1).heap[k]? = w.heap[k]? := by
    intro k cells q h88 h86 hc
    have h1 := hty k cells q h88 hc
    rw [set_far (blk_ne (h1.trans hc) cS1 h86), h1]
  have hfree : ∀ k, freeOf st k → freeOf (st ++ [⟨t, [], .slice none 0 0⟩]) k := fun k hk => free_snoc.2 ⟨hk, by simp [Value.ownBlock]⟩
  refine ⟨hb.setCell h.rest.lS _, h.lN, (hmv bN _ 22 (by decide) (by decide) h.cN).trans h.cN, ?_, ?_⟩
  · exact Kd.S_mono (S_typB (w1 := w1.setCell ⟨bS, 0, none⟩ v1) h.rN (fun k cells q hok hq hc => hmv k cells q (by rcases E57 q hq with rfl | rfl <;> decide) (by rcases E57 q hq with rfl | rfl <;> decide) hc)) (fun k hk => ⟨hfree k hk.1.1, hk.1.2⟩)
  · refine ⟨h.rest.lR, h.rest.lS, (hmv bR _ 31 (by decide) (by decide) h.rest.cR).trans h.rest.cR, var_set cS1, ?_, ?_, ?_, ?_, ?_⟩
    · exact R_typ h.rest.rR (fun k cells q hok hq hc => hmv k cells q (by rw [EKI q hq]; decide) (by rw [EKI q hq]; decide) hc)
    · have h2 : (w1.setCell ⟨bS, 0, none⟩ v1).ownsRow base 84 6 v1 (st.length + 1) (flatO st ++ opnC ⟨t, [], .slice none 0 0⟩) := own_setCell hO (own_ne hO cS1 (by decide)) v1
      rw [← flatO_snoc] at h2
      have e : st.length + 1 = (st ++ [(⟨t, [], .slice none 0 0⟩ : Opn)]).length := by simp
      rw [e] at h2
      exact .inl h2
    · intro a ha
      rcases List.mem_append.1 ha with ha | ha
      · exact R_typ (h.rest.rK a ha) (fun k cells q hok hq hc => hmv k cells q (by rw [EKI q hq]; decide) (by rw [EKI q hq]; decide) hc)
      · rw [List.mem_singleton.1 ha]
        exact Kd.R_nil _ _ _ _ _
    · exact fun k hk => hfree k (h.rest.dR k hk)
    · refine List.pairwise_append.2 ⟨h.rest.dK, List.pairwise_singleton _ _, fun a ha b hb2 => ?_⟩
      rw [List.mem_singleton.1 hb2]
      intro k hk
      simp [Value.ownBlock]
/-- 5. The last list has ended: its kids' row is nobody's. -/
theorem PSt.popped {w0 w : World} {base bN bR bS gS m cap : Nat} {nodes : List S56} {roots : List Int} {init : List Opn} {g : Opn} {vN vR : Value} (h : PSt w0 w base bN bR bS nodes roots (init ++ [g]) vN vR (.slice (some ⟨gS, 0, none⟩) m cap)) :
    PSt w0 (w.setCell ⟨bS, 0, none⟩ (.slice (some ⟨gS, 0, none⟩) init.length init.length)) base bN bR bS nodes roots init vN vR (.slice (some ⟨gS, 0, none⟩) init.length init.length)
    ∧ Kd.S k56 56 (w.setCell ⟨bS, 0, none⟩ (.slice (some ⟨gS, 0, none⟩) init.length init.length)) base (fun k => (freeOf init k ∧ vR.ownBlock ≠ some k) ∧ ¬ g.val.ownBlock = some k) vN nodes
    ∧ KI.R 3 (w.setCell ⟨bS, 0, none⟩ (.slice (some ⟨gS, 0, none⟩) init.length init.length)) base (fun k => g.val.ownBlock = some k) g.val g.kids
    ∧ ∀ k, g.val.ownBlock = some k → freeOf init k ∧ vR.ownBlock ≠ some k := by
  have hgm : g ∈ init ++ [g] := by simp
  have cS := h.rest.cS
  have hmv : ∀ (k : Nat) (cells : Array Value) (q : TypeId), q ≠ 82 → w.heap[k]? = some (.cells cells q (0, 0)) → (w.setCell ⟨bS, 0, none⟩ (.slice (some ⟨gS, 0, none⟩) init.length init.length)).heap[k]? = w.heap[k]? := by
    intro k cells q h86 hc
    exact set_far (blk_ne hc cS h86) _
  have hSS : Kd.S k56 56 (w.setCell ⟨bS, 0, none⟩ (.slice (some ⟨gS, 0, none⟩) init.length init.length)) base (fun k => (freeOf init k ∧ vR.ownBlock ≠ some k) ∧ ¬ g.val.ownBlock = some k) vN nodes :=
    Kd.S_mono (S_typ h.rN (fun k cells q hok hq hc => hmv k cells q (by rcases E57 q hq with rfl | rfl <;> decide) hc)) (fun k hk => ⟨⟨(free_snoc.1 hk.1).1, hk.2⟩, (free_snoc.1 hk.1).2⟩)
  refine ⟨⟨h.bel.setCell h.rest.lS _, h.lN, (hmv bN _ 22 (by decide) h.cN).trans h.cN, Kd.S_mono hSS (fun k hk => hk.1), ?_⟩, hSS, ?_, ?_⟩
  · refine ⟨h.rest.lR, h.rest.lS, (hmv bR _ 31 (by decide) h.rest.cR).trans h.rest.cR, var_set cS, ?_, ?_, ?_, ?_, ?_⟩
    · exact R_typ h.rest.rR (fun k cells q hok hq hc => hmv k cells q (by rw [EKI q hq]; decide) hc)
    · have e : (init ++ [g]).length = init.length + 1 := by simp
      have h1 := h.rest.rS
      rw [e] at h1
      have h2 := h1.pop
      have e2 : (flatO (init ++ [g])).take (init.length * 6) = flatO init := by
        rw [flatO_snoc, ← flatO_length init, List.take_left]
      rw [e2] at h2
      exact h2.move (fun k hk => by obtain ⟨_, _, cells, hc⟩ := h2.typed k hk; exact hmv k cells 84 (by decide) hc)
    · intro a ha
      exact R_typ (h.rest.rK a (List.mem_append_left _ ha)) (fun k cells q hok hq hc => hmv k cells q (by rw [EKI q hq]; decide) hc)
    · exact fun k hk => (free_snoc.1 (h.rest.dR k hk)).1
    · exact (List.pairwise_append.1 h.rest.dK).1
  · exact R_typ (KI_self (h.rest.rK g hgm)) (fun k cells q hok hq hc => hmv k cells q (by rw [EKI q hq]; decide) hc)
  · intro k hk
    refine ⟨fun a ha e => (List.pairwise_append.1 h.rest.dK).2.2 a ha g (by simp) k e hk, fun e => (free_snoc.1 (h.rest.dR k e)).2 hk⟩
/-- What is new is nobody's. -/
theorem PRest.fresh {w : World} {base bR bS : Nat} {roots : List Int} {st : List Opn} {vR vS : Value} (h : PRest w base bR bS roots st vR vS) (k : Nat) (hk : w.heap.size ≤ k) : freeOf st k ∧ vR.ownBlock ≠ some k := by
  refine ⟨fun g hg e => ?_, fun e => ?_⟩
  · have := (KI_typed (h.rK g hg) k e).2.1; omega
  · have := (KI_typed h.rR k e).2.1; omega
theorem kids_not_nodes {w : World} {base : Nat} {ok ok' : Nat → Prop} {v kv : Value} {nodes : List S56} {kids : List Int} (hS : Kd.S k56 56 w base ok v nodes) (hK : KI.R 3 w base ok' kv kids) (k : Nat) (hk : kv.ownBlock = some k) : some k ≠ v.ownBlock := by
  intro e
  obtain ⟨_, _, c1, h1⟩ := KI_typed hK k hk
  obtain ⟨c2, h2⟩ := Kd.S_typed hS k e.symm
  exact blk_ne h1 h2 (by decide) rfl
theorem PSt.cN_grown {w0 w w1 : World} {base bN bR bS : Nat} {nodes : List S56} {roots : List Int} {st : List Opn} {vN vR vS : Value} (h : PSt w0 w base bN bR bS nodes roots st vN vR vS) (hg : w.grownBy w1 vN.ownBlock) : w1.heap[bN]? = some (.cells #[vN] 22 (0, 0)) :=
  (hg.block bN (blk_lt h.cN) (fun e => by
    obtain ⟨c2, hc2⟩ := Kd.S_typed h.rN bN e.symm
    exact blk_ne h.cN hc2 (by decide) rfl)).trans h.cN
theorem PSt.cR_grown {w0 w w1 : World} {base bN bR bS : Nat} {nodes : List S56} {roots : List Int} {st : List Opn} {vN vR vS : Value} (h : PSt w0 w base bN bR bS nodes roots st vN vR vS) (hg : w.grownBy w1 vR.ownBlock) : w1.heap[bR]? = some (.cells #[vR] 31 (0, 0)) :=
  (hg.block bR (blk_lt h.rest.cR) (fun e => by
    obtain ⟨_, _, c2, hc2⟩ := KI_typed h.rest.rR bR e.symm
    exact blk_ne h.rest.cR hc2 (by decide) rfl)).trans h.rest.cR
theorem PSt.cS_grown {w0 w w1 : World} {base bN bR bS : Nat} {nodes : List S56} {roots : List Int} {st : List Opn} {vN vR vS : Value} (h : PSt w0 w base bN bR bS nodes roots st vN vR vS) (hg : w.grownBy w1 vS.ownBlock) : w1.heap[bS]? = some (.cells #[vS] 82 (0, 0)) :=
  (hg.block bS (blk_lt h.rest.cS) (fun e => by
    obtain ⟨_, _, c2, hc2⟩ := h.rest.rS.typed bS e.symm
    exact blk_ne h.rest.cS hc2 (by decide) rfl)).trans h.rest.cS
theorem PRest.empty {w : World} {base bR bS : Nat} {roots : List Int} {vR vS : Value} (h : PRest w base bR bS roots [] vR vS) : ∃ A c, vS = .slice A 0 c := by
  rcases h.rS.form with ⟨h0, _⟩ | ⟨gS, cap, cur, h1, _⟩
  · exact ⟨none, 0, h0⟩
  · exact ⟨_, _, h1⟩
theorem nodes_form {w : World} {base : Nat} {ok : Nat → Prop} {v : Value} {nodes : List S56} (hS : Kd.S k56 56 w base ok v nodes) : ∃ A c, v = .slice A nodes.length c := Kd.S_slice hS
end
section
open Go.RowKit Go.Proofs.YthklnopfgoekeaaGreatDoorW.PrintWords Go.Proofs.YthklnopfgoekeaaGreatDoorW.PrintLast Go.Proofs.YthklnopfgoekeaaGreatDoorW.PrintMore
set_option linter.unusedVariables false
set_option linter.unusedSimpArgs false
theorem info56 : (Tryz.prog.info? 56).map (fun i => (i.zero, i.size, i.bytes)) = some (some (.agg #[(.int .i64 0), (.int .i64 0), (.string ⟨#[]⟩), (.bool false), (.int .i64 0), (.int .i64 0), .slice none 0 0]), 7, 80) := by kernel_rfl
/-- An s-expression as it is handed over. -/
abbrev sexV (n : S56) (kv : Value) : Value := .agg #[.int .i64 n.f0, .int .i64 n.f1.f0, .string n.f1.f1, .bool n.f1.f2, .int .i64 n.f1.f3, .int .i64 n.f1.f4, kv]
set_option maxHeartbeats 4000000 in
theorem sput_root (w0 : World) (base bN bR bS : Nat) (nodes : List S56) (roots : List Int) (vN vR vS : Value) (n : S56) (A : Option Addr) (m c : Nat) (w : World)
    (h : PSt w0 w base bN bR bS nodes roots [] vN vR vS) (hbase : base ≤ w.heap.size)
    (hS : Kd.S k56 56 w base (fun k => (freeOf [] k ∧ vR.ownBlock ≠ some k) ∧ ¬ (Value.slice A m c).ownBlock = some k) vN nodes)
    (hK : KI.R 3 w base (fun k => (Value.slice A m c).ownBlock = some k) (.slice A m c) n.f2) (hap : ∀ k, (Value.slice A m c).ownBlock = some k → freeOf [] k ∧ vR.ownBlock ≠ some k)
    (hn : nodes.length ≤ 1099511627776) (hr : roots.length ≤ 1099511627776) :
    Calls Tryz.prog 47 #[sexV n (.slice A m c), .pointer (some ⟨bN, 0, none⟩), .pointer (some ⟨bS, 0, none⟩), .pointer (some ⟨bR, 0, none⟩)] w fun e w' => e = .returned (.tuple #[]) ∧ ∃ vN' vR', PSt w0 w' base bN bR bS (nodes ++ [n]) (roots ++ [(nodes.length : Int)]) [] vN' vR' vS := by
  have HPA : Aside0 (∀ o : Obj, PSt w0 (w.alloc o) base bN bR bS nodes roots [] vN vR vS) := ⟨fun o => h.below (below_alloc (Below.refl _ _) o) hbase⟩
  have HBA : Aside0 (∀ o : Obj, Below base w0 (w.alloc o)) := ⟨fun o => h.bel.alloc hbase o⟩
  have HS := Aside0.mk hS
  have HK := Aside0.mk hK
  have HOK : Aside0 (∀ k, (Value.slice A m c).ownBlock = some k → (freeOf [] k ∧ vR.ownBlock ≠ some k) ∧ some k ≠ vN.ownBlock) := ⟨fun k hk => ⟨hap k hk, kids_not_nodes h.rN hK k hk⟩⟩
  have HFR : Aside0 (∀ k, w.heap.size ≤ k → freeOf [] k ∧ vR.ownBlock ≠ some k) := ⟨h.rest.fresh⟩
  have HWR : Aside0 (wrap64 ((nodes.length : Int) + 1 - 1) = nodes.length) := ⟨by unfold wrap64; omega⟩
  have c0 := var_cell h.cN
  have l0 := blk_lt h.cN
  obtain ⟨AS, cS, rfl⟩ := h.rest.empty
  clear h hS hK hap
  go_enter Tryz.func47, Tryz.ntmps47
  go_upto_region 2 with (at_builtin; (refine Kd.S_append (w0 := w0) (W := w.alloc (.cells #[.int .i64 n.f0, .int .i64 n.f1.f0, .string n.f1.f1, .bool n.f1.f2, .int .i64 n.f1.f3, .int .i64 n.f1.f4, .slice A m c] 56)) k56 base rfl (.tmp 6) (.tmp 8) 22 56 _ 80 rfl Tryz.underlying22 info56 rfl (by decide) (by decide) vN nodes n [.int .i64 n.f0, .int .i64 n.f1.f0, .string n.f1.f1, .bool n.f1.f2, .int .i64 n.f1.f3, .int .i64 n.f1.f4, .slice A m c] (fun k => freeOf [] k ∧ vR.ownBlock ≠ some k) (fun k => (Value.slice A m c).ownBlock = some k) rfl (by simp [Act.eval]) (k56_mkM _ _ _ _ (Kd.R_alloc HK.out _)) HOK.out (fun k hk => HFR.out k (by simp at hk; omega)) (Kd.S_alloc HS.out _) (HBA.out _) (by simp; omega) (by omega) ?_; intro v1 w1 hS1 hb1 hg1 hat1; obtain ⟨A1, n1, hv1⟩ := nodes_form hS1; rw [List.length_append, List.length_singleton] at hv1; subst hv1; have f1 := var_frozen ((HPA.out _).cN_grown hg1); have k1 := var_cell ((HPA.out _).cN_grown hg1); have HP1 := Aside0.mk ((HPA.out _).noded (HPA.out _).rest hS1 hb1 hg1); clear hS1 hb1 hg1 hat1))
  obtain ⟨w2, hw2⟩ : ∃ w2, w2 = w1.setCell ⟨bN, 0, none⟩ (.slice A1 (nodes.length + 1) n1) := ⟨_, rfl⟩
  rw [← hw2] at HP1 ⊢
  clear hw2 f1 k1 HFR HOK HPA HBA HS HK c0 l0
  have hb2 : base ≤ w2.heap.size := Nat.le_trans HP1.out.lN (Nat.le_of_lt (blk_lt HP1.out.cN))
  have HP2 : Aside0 (∀ o : Obj, PSt w0 (w2.alloc o) base bN bR bS (nodes ++ [n]) roots [] (.slice A1 (nodes.length + 1) n1) vR (.slice AS 0 cS)) := ⟨fun o => HP1.out.below (below_alloc (Below.refl _ _) o) hb2⟩
  have HR2 := Aside0.mk HP1.out.rest.rR
  have s0 := var_cell HP1.out.cN
  have s1 := var_cell HP1.out.rest.cR
  have s2 := var_cell HP1.out.rest.cS
  have l0 := blk_lt HP1.out.cN
  have l1 := blk_lt HP1.out.rest.cR
  have l2 := blk_lt HP1.out.rest.cS
  have hwr := HWR.out
  go_wp2_with (at_builtin; (refine Kd.R_append (w0 := w0) (W := w2) KI base rfl (.tmp 30) (.tmp 34) 31 3 _ 8 rfl Tryz.underlying31 info3 rfl (by decide) (by decide) vR roots (nodes.length : Int) [.int .i64 (nodes.length : Int)] (fun _ => True) (fun _ => False) rfl (by simp [Act.eval]) rfl (fun _ hk => hk.elim) (fun _ _ => trivial) HR2.out HP1.out.bel hb2 (by omega) ?_; intro v1 w3 hR1 hb1 hg1 hat1; obtain ⟨A3, n3, hv3⟩ := Kd.R_slice hR1; rw [List.length_append, List.length_singleton] at hv3; subst hv3; have f1 := var_frozen (HP1.out.cR_grown hg1); have k1 := var_cell (HP1.out.cR_grown hg1); have HP3 := Aside0.mk (HP1.out.rooted hR1 hb1 hg1 hat1); clear hR1 hb1 hg1 hat1))
  go_end0
  exact ⟨rfl, _, _, HP3.out⟩
theorem flat_at (init : List Opn) (g : Opn) : (flatO (init ++ [g]))[init.length * 6 + 5]? = some g.val := by
  have hl := flatO_length init
  rw [flatO_snoc, List.getElem?_append_right (by omega), show init.length * 6 + 5 - (flatO init).length = 5 by omega]
  rfl
theorem PSt.head {w0 w : World} {base bN bR bS gS m cap : Nat} {nodes : List S56} {roots : List Int} {init : List Opn} {g : Opn} {vN vR : Value} (h : PSt w0 w base bN bR bS nodes roots (init ++ [g]) vN vR (.slice (some ⟨gS, 0, none⟩) m cap)) : w.cell? ⟨gS, init.length * 6 + 5, none⟩ = some g.val ∧ w.frozen? ⟨gS, init.length * 6 + 5, none⟩ = false ∧ gS < w.heap.size := by
  have e : (init ++ [g]).length = init.length + 1 := by simp
  have h1 := h.rest.rS
  rw [e] at h1
  obtain ⟨h2, h3, g', e', h4, ⟨cells, h5⟩, h6⟩ := h1.cellAt (by omega)
  injection e' with e'
  injection e' with e' _ _
  subst e'
  refine ⟨?_, frozen_of_row w gS _ cells 84 h5, blk_lt h5⟩
  rw [h6 _ (by omega), flat_at]
/-- What the last step's loads ask: the cells stand behind an append to the last list's kids. -/
theorem PSt.kept_kids {w0 w w1 : World} {base bN bR bS gS m cap : Nat} {nodes : List S56} {roots : List Int} {init : List Opn} {g : Opn} {vN vR : Value} (h : PSt w0 w base bN bR bS nodes roots (init ++ [g]) vN vR (.slice (some ⟨gS, 0, none⟩) m cap)) (hg : w.grownBy w1 g.val.ownBlock) :
    w1.cell? ⟨bS, 0, none⟩ = some (.slice (some ⟨gS, 0, none⟩) m cap) ∧ w1.cell? ⟨bN, 0, none⟩ = some vN ∧ w1.cell? ⟨gS, init.length * 6 + 5, none⟩ = some g.val ∧ w1.frozen? ⟨gS, init.length * 6 + 5, none⟩ = false := by
  have hKg := h.rest.rK g (by simp)
  have hty : ∀ (k : Nat) (cells : Array Value) (q : TypeId), q ≠ 3 → w.heap[k]? = some (.cells cells q (0, 0)) → w1.heap[k]? = some (.cells cells q (0, 0)) := by
    intro k cells q hq hc
    refine (hg.block k (blk_lt hc) ?_).trans hc
    intro e
    obtain ⟨_, _, c2, hc2⟩ := KI_typed hKg k e.symm
    exact blk_ne hc hc2 hq rfl
  have e : (init ++ [g]).length = init.length + 1 := by simp
  have h1 := h.rest.rS
  rw [e] at h1
  obtain ⟨h2, h3, g', e', h4, ⟨cells, h5⟩, h6⟩ := h1.cellAt (by omega)
  injection e' with e'
  injection e' with e' _ _
  subst e'
  have h7 := hty gS cells 84 (by decide) h5
  refine ⟨var_cell (hty bS _ 82 (by decide) h.rest.cS), var_cell (hty bN _ 22 (by decide) h.cN), ?_, frozen_of_row w1 gS _ cells 84 h7⟩
  rw [cell_of_row w1 gS _ cells 84 (0, 0) h7, ← cell_of_row w gS _ cells 84 (0, 0) h5, h.head.1]
set_option maxHeartbeats 8000000 in
set_option maxRecDepth 100000 in
theorem sput_kid (w0 : World) (base bN bR bS gS cap : Nat) (nodes : List S56) (roots : List Int) (init : List Opn) (tk : S37) (kids : List Int) (AK : Option Addr) (ck : Nat) (vN vR : Value) (n : S56) (A : Option Addr) (m c : Nat) (w : World)
    (h : PSt w0 w base bN bR bS nodes roots (init ++ [⟨tk, kids, .slice AK kids.length ck⟩]) vN vR (.slice (some ⟨gS, 0, none⟩) (init.length + 1) cap)) (hbase : base ≤ w.heap.size)
    (hS : Kd.S k56 56 w base (fun k => (freeOf (init ++ [⟨tk, kids, .slice AK kids.length ck⟩]) k ∧ vR.ownBlock ≠ some k) ∧ ¬ (Value.slice A m c).ownBlock = some k) vN nodes)
    (hK : KI.R 3 w base (fun k => (Value.slice A m c).ownBlock = some k) (.slice A m c) n.f2) (hap : ∀ k, (Value.slice A m c).ownBlock = some k → freeOf (init ++ [⟨tk, kids, .slice AK kids.length ck⟩]) k ∧ vR.ownBlock ≠ some k)
    (hn : nodes.length ≤ 1099511627776) (hk : kids.length ≤ 1099511627776) (hi : init.length ≤ 1099511627776) (hcap : init.length + 1 ≤ cap) :
    Calls Tryz.prog 47 #[sexV n (.slice A m c), .pointer (some ⟨bN, 0, none⟩), .pointer (some ⟨bS, 0, none⟩), .pointer (some ⟨bR, 0, none⟩)] w fun e w' => e = .returned (.tuple #[]) ∧ ∃ vN' A' c', PSt w0 w' base bN bR bS (nodes ++ [n]) roots (init ++ [⟨tk, kids ++ [(nodes.length : Int)], .slice A' (kids.length + 1) c'⟩]) vN' vR (.slice (some ⟨gS, 0, none⟩) (init.length + 1) cap) := by
  have HPA : Aside0 (∀ o : Obj, PSt w0 (w.alloc o) base bN bR bS nodes roots (init ++ [⟨tk, kids, .slice AK kids.length ck⟩]) vN vR (.slice (some ⟨gS, 0, none⟩) (init.length + 1) cap)) := ⟨fun o => h.below (below_alloc (Below.refl _ _) o) hbase⟩
  have HBA : Aside0 (∀ o : Obj, Below base w0 (w.alloc o)) := ⟨fun o => h.bel.alloc hbase o⟩
  have HS := Aside0.mk hS
  have HK := Aside0.mk hK
  have HOK : Aside0 (∀ k, (Value.slice A m c).ownBlock = some k → (freeOf (init ++ [⟨tk, kids, .slice AK kids.length ck⟩]) k ∧ vR.ownBlock ≠ some k) ∧ some k ≠ vN.ownBlock) := ⟨fun k hk => ⟨hap k hk, kids_not_nodes h.rN hK k hk⟩⟩
  have HFR : Aside0 (∀ k, w.heap.size ≤ k → freeOf (init ++ [⟨tk, kids, .slice AK kids.length ck⟩]) k ∧ vR.ownBlock ≠ some k) := ⟨h.rest.fresh⟩
  have c0 := var_cell h.cN
  have l0 := blk_lt h.cN
  clear h hS hK hap
  go_enter Tryz.func47, Tryz.ntmps47
  go_upto_region 2 with (at_builtin; (refine Kd.S_append (w0 := w0) (W := w.alloc (.cells #[.int .i64 n.f0, .int .i64 n.f1.f0, .string n.f1.f1, .bool n.f1.f2, .int .i64 n.f1.f3, .int .i64 n.f1.f4, .slice A m c] 56)) k56 base rfl (.tmp 6) (.tmp 8) 22 56 _ 80 rfl Tryz.underlying22 info56 rfl (by decide) (by decide) vN nodes n [.int .i64 n.f0, .int .i64 n.f1.f0, .string n.f1.f1, .bool n.f1.f2, .int .i64 n.f1.f3, .int .i64 n.f1.f4, .slice A m c] (fun k => freeOf (init ++ [⟨tk, kids, .slice AK kids.length ck⟩]) k ∧ vR.ownBlock ≠ some k) (fun k => (Value.slice A m c).ownBlock = some k) rfl (by simp [Act.eval]) (k56_mkM _ _ _ _ (Kd.R_alloc HK.out _)) HOK.out (fun k hk => HFR.out k (by simp at hk; omega)) (Kd.S_alloc HS.out _) (HBA.out _) (by simp; omega) (by omega) ?_; intro v1 w1 hS1 hb1 hg1 hat1; obtain ⟨A1, n1, hv1⟩ := nodes_form hS1; rw [List.length_append, List.length_singleton] at hv1; subst hv1; have f1 := var_frozen ((HPA.out _).cN_grown hg1); have k1 := var_cell ((HPA.out _).cN_grown hg1); have HP1 := Aside0.mk ((HPA.out _).noded (HPA.out _).rest hS1 hb1 hg1); clear hS1 hb1 hg1 hat1))
  obtain ⟨w2, hw2⟩ : ∃ w2, w2 = w1.setCell ⟨bN, 0, none⟩ (.slice A1 (nodes.length + 1) n1) := ⟨_, rfl⟩
  rw [← hw2] at HP1 ⊢
  clear hw2 f1 k1 HFR HOK HPA HBA HS HK c0 l0
  have hb2 : base ≤ w2.heap.size := Nat.le_trans HP1.out.lN (Nat.le_of_lt (blk_lt HP1.out.cN))
  have s2 := var_cell HP1.out.rest.cS
  have l2 := blk_lt HP1.out.rest.cS
  have hgt : decide ((0 : Int) < (init.length : Int) + 1) = true := decide_eq_true (by omega)
  have hwr2 : wrap64 ((init.length : Int) + 1 - 1) = init.length := by unfold wrap64; omega
  have hwr : wrap64 ((nodes.length : Int) + 1 - 1) = nodes.length := by unfold wrap64; omega
  have hwr3 : wrap64 (init.length : Int) = init.length := by unfold wrap64; omega
  have hwr4 : wrap64 (nodes.length : Int) = nodes.length := by unfold wrap64; omega
  have hlt : ((init.length : Int) < (init.length : Int) + 1) = True := eq_true (Int.lt_add_one_of_le (Int.le_refl _))
  have hle : ((0 : Int) ≤ (init.length : Int)) = True := eq_true (Int.natCast_nonneg _)
  have hnp : ((0 : Int) ≤ (nodes.length : Int)) = True := eq_true (Int.natCast_nonneg _)
  go_upto_region 4 with (fail)
  have HH := HP1.out.head
  refine start_ (n := 17) (S := fun w' => w'.cell? ⟨bS, 0, none⟩ = some (.slice (some ⟨gS, 0, none⟩) (init.length + 1) cap) ∧ w'.cell? ⟨bN, 0, none⟩ = some (.slice A1 (nodes.length + 1) n1) ∧ w'.cell? ⟨gS, init.length * 6 + 5, none⟩ = some (.slice AK kids.length ck)) (ds := [16]) #[false, false, false, false, false, false, false, false, false, false, false, false, false, false, false, false, false] (by kernel_rfl) rfl rfl ⟨s2, var_cell HP1.out.cN, HH.1⟩ (fun hHeld => ?_)
  have HPd : Aside0 (PSt w0 w2.drew base bN bR bS (nodes ++ [n]) roots (init ++ [⟨tk, kids, .slice AK kids.length ck⟩]) (.slice A1 (nodes.length + 1) n1) vR (.slice (some ⟨gS, 0, none⟩) (init.length + 1) cap)) := ⟨HP1.out.below (below_drew (Below.refl _ _)) hb2⟩
  have hbd : base ≤ w2.drew.heap.size := hb2
  generalize w2.drew = w3 at HPd hbd hHeld ⊢
  clear HH s2 l2 HP1
  refine take_ (i := 0) (N := some 14) (v := ?_) (a' := ?_) #[true, false, false, false, false, false, false, false, false, false, false, false, false, false, false, false, false] rfl rfl (by kernel_rfl) (fun _ _ _ h => h) (Or.inl ⟨by rfl, ?_⟩) hHeld ?_ ?_
  rotate_left
  · rintro w' ⟨q0, q1, q2⟩
    go_simp
    with_reducible rfl
  rotate_left
  · simp only [Act.put, List.setIfInBounds_toArray, List.set_cons_zero, List.set_cons_succ, i64_w, i32_w]
    rfl
  refine take_ (i := 3) (N := some 17) (v := ?_) (a' := ?_) #[true, false, false, true, false, false, false, false, false, false, false, false, false, false, false, false, false] rfl rfl (by kernel_rfl) (fun _ _ _ h => h) (Or.inl ⟨by rfl, ?_⟩) hHeld ?_ ?_
  rotate_left
  · rintro w' ⟨q0, q1, q2⟩
    go_simp
    with_reducible rfl
  rotate_left
  · simp only [Act.put, List.setIfInBounds_toArray, List.set_cons_zero, List.set_cons_succ, i64_w, i32_w]
    rfl
  refine pure_ (i := 1) (N := some 15) (v := ?_) (a' := ?_) #[true, true, false, true, false, false, false, false, false, false, false, false, false, false, false, false, false] rfl rfl (by kernel_rfl) (fun _ _ _ h => h) (Or.inl ⟨by rfl, ?_⟩) ?_ ?_
  rotate_left
  · intro w'
    go_simp
    with_reducible rfl
  rotate_left
  · simp only [Act.put, List.setIfInBounds_toArray, List.set_cons_zero, List.set_cons_succ, i64_w, i32_w]
    rfl
  refine pure_ (i := 2) (N := some 16) (v := ?_) (a' := ?_) #[true, true, true, true, false, false, false, false, false, false, false, false, false, false, false, false, false] rfl rfl (by kernel_rfl) (fun _ _ _ h => h) (Or.inl ⟨by rfl, ?_⟩) ?_ ?_
  rotate_left
  · intro w'
    go_simp
    with_reducible rfl
  rotate_left
  · simp only [Act.put, List.setIfInBounds_toArray, List.set_cons_zero, List.set_cons_succ, i64_w, i32_w]
    rfl
  refine pure_ (i := 4) (N := some 18) (v := ?_) (a' := ?_) #[true, true, true, true, true, false, false, false, false, false, false, false, false, false, false, false, false] rfl rfl (by kernel_rfl) (fun _ _ _ h => h) (Or.inl ⟨by rfl, ?_⟩) ?_ ?_
  rotate_left
  · intro w'
    go_simp
    with_reducible rfl
  rotate_left
  · simp only [Act.put, List.setIfInBounds_toArray, List.set_cons_zero, List.set_cons_succ, i64_w, i32_w]
    rfl
  refine pure_ (i := 5) (N := some 19) (v := ?_) (a' := ?_) #[true, true, true, true, true, true, false, false, false, false, false, false, false, false, false, false, false] rfl rfl (by kernel_rfl) (fun _ _ _ h => h) (Or.inl ⟨by rfl, ?_⟩) ?_ ?_
  rotate_left
  · intro w'
    go_simp
    with_reducible rfl
  rotate_left
  · simp only [Act.put, List.setIfInBounds_toArray, List.set_cons_zero, List.set_cons_succ, i64_w, i32_w]
    rfl
  refine pure_ (i := 6) (N := some 20) (v := ?_) (a' := ?_) #[true, true, true, true, true, true, true, false, false, false, false, false, false, false, false, false, false] rfl rfl (by kernel_rfl) (fun _ _ _ h => h) (Or.inl ⟨by rfl, ?_⟩) ?_ ?_
  rotate_left
  · intro w'
    go_simp
    with_reducible rfl
  rotate_left
  · simp only [Act.put, List.setIfInBounds_toArray, List.set_cons_zero, List.set_cons_succ, i64_w, i32_w]
    rfl
  refine pure_ (i := 7) (N := some 21) (v := ?_) (a' := ?_) #[true, true, true, true, true, true, true, true, false, false, false, false, false, false, false, false, false] rfl rfl (by kernel_rfl) (fun _ _ _ h => h) (Or.inl ⟨by rfl, ?_⟩) ?_ ?_
  rotate_left
  · intro w'
    go_simp
    with_reducible rfl
  rotate_left
  · simp only [Act.put, List.setIfInBounds_toArray, List.set_cons_zero, List.set_cons_succ, i64_w, i32_w]
    rfl
  refine take_ (i := 8) (N := some 22) (v := ?_) (a' := ?_) #[true, true, true, true, true, true, true, true, true, false, false, false, false, false, false, false, false] rfl rfl (by kernel_rfl) (fun _ _ _ h => h) (Or.inl ⟨by rfl, ?_⟩) hHeld ?_ ?_
  rotate_left
  · rintro w' ⟨q0, q1, q2⟩
    go_simp
    with_reducible rfl
  rotate_left
  · simp only [Act.put, List.setIfInBounds_toArray, List.set_cons_zero, List.set_cons_succ, i64_w, i32_w]
    rfl
  refine take_ (i := 9) (N := some 23) (v := ?_) (a' := ?_) #[true, true, true, true, true, true, true, true, true, true, false, false, false, false, false, false, false] rfl rfl (by kernel_rfl) (fun _ _ _ h => h) (Or.inl ⟨by rfl, ?_⟩) hHeld ?_ ?_
  rotate_left
  · rintro w' ⟨q0, q1, q2⟩
    go_simp
    with_reducible rfl
  rotate_left
  · simp only [Act.put, List.setIfInBounds_toArray, List.set_cons_zero, List.set_cons_succ, i64_w, i32_w]
    rfl
  refine pure_ (i := 10) (N := some 24) (v := ?_) (a' := ?_) #[true, true, true, true, true, true, true, true, true, true, true, false, false, false, false, false, false] rfl rfl (by kernel_rfl) (fun _ _ _ h => h) (Or.inl ⟨by rfl, ?_⟩) ?_ ?_
  rotate_left
  · intro w'
    go_simp
    with_reducible rfl
  rotate_left
  · simp only [Act.put, List.setIfInBounds_toArray, List.set_cons_zero, List.set_cons_succ, i64_w, i32_w]
    rfl
  refine pure_ (i := 11) (N := some 25) (v := ?_) (a' := ?_) #[true, true, true, true, true, true, true, true, true, true, true, true, false, false, false, false, false] rfl rfl (by kernel_rfl) (fun _ _ _ h => h) (Or.inl ⟨by rfl, ?_⟩) ?_ ?_
  rotate_left
  · intro w'
    go_simp
    with_reducible rfl
  rotate_left
  · simp only [Act.put, List.setIfInBounds_toArray, List.set_cons_zero, List.set_cons_succ, i64_w, i32_w]
    rfl
  refine one_ (i := 12) (N := some 26) #[true, true, true, true, true, true, true, true, true, true, true, true, true, false, false, false, false] rfl rfl (by kernel_rfl) (by decide) (fun K hK => ?_)
  refine value_ (w1 := w3.alloc (.cells #[.int .i64 (nodes.length : Int)] 3)) (v := .slice (some ⟨w3.heap.size, 0, none⟩) 1 1) (by rfl) rfl ?_ ?_
  · go_simp
  have HPl := HPd.out.below (below_alloc (Below.refl _ _) (.cells #[.int .i64 (nodes.length : Int)] 3)) hbd
  refine hK.out _ _ ⟨var_cell HPl.rest.cS, var_cell HPl.cN, HPl.head.1⟩ (fun hHeld2 => ?_)
  clear hK K HPl
  refine norm_ (a' := ?_) ?_ ?_
  rotate_left
  · show Act.put _ (some 26) _ = _
    simp only [Act.put, List.setIfInBounds_toArray, List.set_cons_zero, List.set_cons_succ, i64_w, i32_w]
    rfl
  refine one_ (i := 13) (N := some 27) #[true, true, true, true, true, true, true, true, true, true, true, true, true, true, false, false, false] rfl rfl (by kernel_rfl) (by decide) (fun K hK => ?_)
  refine Kd.R_append_step (w0 := w0) (W := w3) KI base (by rfl) (.tmp 22) (.tmp 26) 31 3 _ 8 (by rfl) Tryz.underlying31 info3 (by rfl) (by decide) (by decide) (.slice AK kids.length ck) kids (nodes.length : Int) [.int .i64 (nodes.length : Int)] (fun _ => True) (fun _ => False) (by rfl) (by simp [Act.eval]) rfl (fun _ h => h.elim) (fun _ _ => trivial) (HPd.out.rest.rK (⟨tk, kids, .slice AK kids.length ck⟩ : Opn) (by simp)) HPd.out.bel hbd (by omega) ?_
  intro v1 w4 hR1 hb1 hg1 hat1
  obtain ⟨A3, n3, hv3⟩ := Kd.R_slice hR1
  rw [List.length_append, List.length_singleton] at hv3
  subst hv3
  obtain ⟨z0, z1, z2, z3⟩ := HPd.out.kept_kids hg1
  have HPE := Aside0.mk (HPd.out.kided hR1 hb1 hg1 hat1)
  refine hK.out _ _ ⟨z0, z1, z2⟩ (fun hHeld3 => ?_)
  clear hK K hR1 hb1 hg1 hat1 hHeld hHeld2
  refine norm_ (a' := ?_) ?_ ?_
  rotate_left
  · show Act.put _ (some 27) _ = _
    simp only [Act.put, List.setIfInBounds_toArray, List.set_cons_zero, List.set_cons_succ, i64_w, i32_w]
    rfl
  refine pure_ (i := 14) (N := some 28) (v := ?_) (a' := ?_) #[true, true, true, true, true, true, true, true, true, true, true, true, true, true, true, false, false] rfl rfl (by kernel_rfl) (fun _ _ _ h => h) (Or.inl ⟨by rfl, ?_⟩) ?_ ?_
  rotate_left
  · intro w'
    go_simp
    with_reducible rfl
  rotate_left
  · simp only [Act.put, List.setIfInBounds_toArray, List.set_cons_zero, List.set_cons_succ, i64_w, i32_w]
    rfl
  refine pure_ (i := 15) (N := some 29) (v := ?_) (a' := ?_) #[true, true, true, true, true, true, true, true, true, true, true, true, true, true, true, true, false] rfl rfl (by kernel_rfl) (fun _ _ _ h => h) (Or.inl ⟨by rfl, ?_⟩) ?_ ?_
  rotate_left
  · intro w'
    go_simp
    with_reducible rfl
  rotate_left
  · simp only [Act.put, List.setIfInBounds_toArray, List.set_cons_zero, List.set_cons_succ, i64_w, i32_w]
    rfl
  refine last_ (i := 16) (N := none) #[true, true, true, true, true, true, true, true, true, true, true, true, true, true, true, true, true] rfl rfl (by kernel_rfl) (by decide) (fun K hK => ?_)
  refine skip_ (w1 := w4.setCell ⟨gS, init.length * 6 + 5, none⟩ (.slice A3 (kids.length + 1) n3)) (by rfl) rfl ?_ ?_
  · go_simp
  refine hK.out _ _ ?_
  clear hK K
  refine done_ (by kernel_rfl) ?_
  go_end0
  exact ⟨rfl, _, _, _, HPE.out⟩
end
section
open Go.RowKit Go.Proofs.YthklnopfgoekeaaGreatDoorW.PrintWords Go.Proofs.YthklnopfgoekeaaGreatDoorW.PrintLast Go.Proofs.YthklnopfgoekeaaGreatDoorW.PrintMore
set_option linter.unusedVariables false
set_option linter.unusedSimpArgs false

theorem drop_at2 {l : List S37} {k : Nat} (h : k < l.length) : l.drop k = rd_T37 l k :: l.drop (k + 1) := by
  rw [List.drop_eq_getElem_cons h]
  congr 1
  unfold rd_T37
  simp [h]
theorem info84 : (Tryz.prog.info? 84).map (fun i => (i.zero, i.size, i.bytes)) = some (some (.agg #[(.int .i64 0), (.string ⟨#[]⟩), (.bool false), (.int .i64 0), (.int .i64 0), .slice none 0 0]), 6, 72) := by kernel_rfl
abbrev Stk := List (S37 × List Int)
/-- A node more. -/
def putP (nodes : List S56) (roots : List Int) (stk : Stk) (n : S56) : List S56 × List Int × Stk := match stk.getLast? with
  | none => (nodes ++ [n], roots ++ [(nodes.length : Int)], [])
  | some g => (nodes ++ [n], roots, stk.dropLast ++ [(g.1, g.2 ++ [(nodes.length : Int)])])
def parseGo : List S37 → List S56 → List Int → Stk → List S56 × List Int × Int × Int × Int
  | [], nodes, roots, stk => match stk.getLast? with
    | none => (nodes, roots, 0, 0, 0)
    | some g => ([], [], g.1.f3, g.1.f4, 71)
  | t :: ts, nodes, roots, stk => if (writeR t.f0 t.f1 t.f2).2 = 0 then
      (if t.f0 = 1 then (if 4096 ≤ stk.length then ([], [], t.f3, t.f4, 72) else parseGo ts nodes roots (stk ++ [(t, [])]))
       else if t.f0 = 2 then (match stk.getLast? with
         | none => ([], [], t.f3, t.f4, 70)
         | some g => parseGo ts (putP nodes roots stk.dropLast ⟨2, g.1, g.2⟩).1 (putP nodes roots stk.dropLast ⟨2, g.1, g.2⟩).2.1 (putP nodes roots stk.dropLast ⟨2, g.1, g.2⟩).2.2)
       else parseGo ts (putP nodes roots stk ⟨1, t, []⟩).1 (putP nodes roots stk ⟨1, t, []⟩).2.1 (putP nodes roots stk ⟨1, t, []⟩).2.2)
    else ([], [], t.f3, t.f4, 73)
def parseR (l : List S37) : List S56 × List Int × Int × Int × Int := parseGo l [] [] []
abbrev tokV (t : S37) : Value := .agg #[.int .i64 t.f0, .string t.f1, .bool t.f2, .int .i64 t.f3, .int .i64 t.f4]
abbrev faultV (t : S37) (e : Int) : Value := .tuple #[.slice none 0 0, .slice none 0 0, .int .i64 t.f3, .int .i64 t.f4, .int .i64 e]
theorem sfault_calls (t : S37) (e : Int) (w : World) : Calls Tryz.prog 48 #[tokV t, .int .i64 e] w fun x w' => x = .returned (faultV t e) ∧ Below w.heap.size w w' := by
  have HW : Aside0 (∀ o : Obj, Below w.heap.size w (w.alloc o)) := ⟨fun o => (Below.refl _ _).alloc (Nat.le_refl _) _⟩
  go_enter Tryz.func48, Tryz.ntmps48
  go_wp2
  go_quiet (fail)
  go_wp2
  refine bodyPost_ret (results_list (rs := [.tmp 4, .tmp 5, .tmp 6, .tmp 7, .tmp 8]) rfl (by simp) (.tmp (.tmp (.tmp (.tmp (.tmp .nil)))))) rfl ?_
  exact ⟨rfl, pw_below_drewN (HW.out _) _⟩
def opnP (o : Opn) : S37 × List Int := (o.tok, o.kids)
theorem nil_or_snoc {α : Type} (l : List α) : l = [] ∨ ∃ init g, l = init ++ [g] := by
  rcases List.eq_nil_or_concat l with h | ⟨L, b, h⟩
  · exact .inl h
  · exact .inr ⟨L, b, by simpa using h⟩
theorem putP_nil (nodes : List S56) (roots : List Int) (n : S56) : putP nodes roots [] n = (nodes ++ [n], roots ++ [(nodes.length : Int)], []) := rfl
theorem putP_snoc (nodes : List S56) (roots : List Int) (init : Stk) (g : S37 × List Int) (n : S56) : putP nodes roots (init ++ [g]) n = (nodes ++ [n], roots, init ++ [(g.1, g.2 ++ [(nodes.length : Int)])]) := by
  unfold putP
  rw [List.getLast?_concat, List.dropLast_concat]
/-- The closure 'put', whatever list has not ended. -/
theorem sput (w0 : World) (base bN bR bS : Nat) (nodes : List S56) (roots : List Int) (st : List Opn) (vN vR vS : Value) (n : S56) (A : Option Addr) (m c : Nat) (w : World)
    (h : PSt w0 w base bN bR bS nodes roots st vN vR vS) (hbase : base ≤ w.heap.size)
    (hS : Kd.S k56 56 w base (fun k => (freeOf st k ∧ vR.ownBlock ≠ some k) ∧ ¬ (Value.slice A m c).ownBlock = some k) vN nodes)
    (hK : KI.R 3 w base (fun k => (Value.slice A m c).ownBlock = some k) (.slice A m c) n.f2) (hap : ∀ k, (Value.slice A m c).ownBlock = some k → freeOf st k ∧ vR.ownBlock ≠ some k)
    (hn : nodes.length ≤ 1099511627776) (hr : roots.length ≤ 1099511627776) (hk : ∀ g ∈ st, g.kids.length ≤ 1099511627776) (hi : st.length ≤ 1099511627776) :
    Calls Tryz.prog 47 #[sexV n (.slice A m c), .pointer (some ⟨bN, 0, none⟩), .pointer (some ⟨bS, 0, none⟩), .pointer (some ⟨bR, 0, none⟩)] w fun e w' => e = .returned (.tuple #[]) ∧ ∃ nodes' roots' st' vN' vR', PSt w0 w' base bN bR bS nodes' roots' st' vN' vR' vS ∧ putP nodes roots (st.map opnP) n = (nodes', roots', st'.map opnP) ∧ nodes'.length = nodes.length + 1 ∧ roots'.length ≤ roots.length + 1 ∧ st'.length = st.length ∧ ∀ b : Nat, (∀ g ∈ st, g.kids.length ≤ b) → ∀ g ∈ st', g.kids.length ≤ b + 1 := by
  rcases nil_or_snoc st with rfl | ⟨init, g, rfl⟩
  · refine (sput_root w0 base bN bR bS nodes roots vN vR vS n A m c w h hbase hS hK hap hn hr).mono ?_
    rintro e w' ⟨rfl, vN', vR', h'⟩
    exact ⟨rfl, _, _, _, _, _, h', rfl, by simp, by simp, rfl, fun b _ g hg => by cases hg⟩
  · obtain ⟨tk, kids, val⟩ := g
    obtain ⟨AK, ck, hv⟩ := Kd.R_slice (h.rest.rK ⟨tk, kids, val⟩ (by simp))
    have hv : val = .slice AK kids.length ck := hv
    subst hv
    obtain ⟨gS, cap, cells, rfl, hcap, _⟩ := h.rest.last
    have hl : init.length ≤ 1099511627776 := by rw [List.length_append] at hi; omega
    refine (sput_kid w0 base bN bR bS gS cap nodes roots init tk kids AK ck vN vR n A m c w h hbase hS hK hap hn (hk (⟨tk, kids, .slice AK kids.length ck⟩ : Opn) (by simp)) hl hcap).mono ?_
    rintro e w' ⟨rfl, vN', A', c', h'⟩
    refine ⟨rfl, _, _, _, _, _, h', ?_, by simp, by omega, by simp, fun b hb g hg => ?_⟩
    · rw [List.map_append, List.map_append]
      exact putP_snoc _ _ _ _ _
    · rcases List.mem_append.1 hg with hg | hg
      · have := hb g (List.mem_append_left _ hg); omega
      · rw [List.mem_singleton.1 hg]
        have := hb ⟨tk, kids, .slice AK kids.length ck⟩ (by simp)
        show (kids ++ [_]).length ≤ _
        rw [List.length_append, List.length_singleton]
        have h3 : kids.length ≤ b := this
        omega
theorem PRest.formS {w : World} {base bR bS : Nat} {roots : List Int} {st : List Opn} {vR vS : Value} (h : PRest w base bR bS roots st vR vS) : ∃ A c, vS = .slice A st.length c := by
  rcases h.rS.form with ⟨h0, h1⟩ | ⟨gS, cap, cur, h1, _⟩
  · exact ⟨none, 0, by rw [h0, h1]⟩
  · exact ⟨_, _, h1⟩
/-- The cells of the last list. -/
theorem PSt.top {w0 w : World} {base bN bR bS gS m cap : Nat} {nodes : List S56} {roots : List Int} {init : List Opn} {g : Opn} {vN vR : Value} (h : PSt w0 w base bN bR bS nodes roots (init ++ [g]) vN vR (.slice (some ⟨gS, 0, none⟩) m cap)) :
    w.cell? ⟨gS, init.length * 6, none⟩ = some (.int .i64 g.tok.f0) ∧ w.cell? ⟨gS, init.length * 6 + 1, none⟩ = some (.string g.tok.f1) ∧ w.cell? ⟨gS, init.length * 6 + 2, none⟩ = some (.bool g.tok.f2) ∧ w.cell? ⟨gS, init.length * 6 + 3, none⟩ = some (.int .i64 g.tok.f3) ∧ w.cell? ⟨gS, init.length * 6 + 4, none⟩ = some (.int .i64 g.tok.f4) ∧ w.cell? ⟨gS, init.length * 6 + 5, none⟩ = some g.val := by
  have e : (init ++ [g]).length = init.length + 1 := by simp
  have h1 := h.rest.rS
  rw [e] at h1
  obtain ⟨h2, h3, g', e', h4, ⟨cells, h5⟩, h6⟩ := h1.cellAt (by omega)
  injection e' with e'
  injection e' with e' _ _
  subst e'
  have hl := flatO_length init
  have at_ : ∀ j : Nat, j < 6 → w.cell? ⟨gS, init.length * 6 + j, none⟩ = (opnC g)[j]? := by
    intro j hj
    rw [h6 _ (by omega), flatO_snoc, List.getElem?_append_right (by omega), show init.length * 6 + j - (flatO init).length = j by omega]
  exact ⟨at_ 0 (by omega), at_ 1 (by omega), at_ 2 (by omega), at_ 3 (by omega), at_ 4 (by omega), at_ 5 (by omega)⟩
theorem box84 {w : World} {b : Nat} {v0 v1 v2 v3 v4 v5 : Value} (h : w.heap[b]? = some (.cells #[v0, v1, v2, v3, v4, v5] 84 (0, 0))) : w.cell? ⟨b, 0, none⟩ = some v0 ∧ w.cell? ⟨b, 1, none⟩ = some v1 ∧ w.cell? ⟨b, 2, none⟩ = some v2 ∧ w.cell? ⟨b, 3, none⟩ = some v3 ∧ w.cell? ⟨b, 4, none⟩ = some v4 ∧ w.cell? ⟨b, 5, none⟩ = some v5 := by
  refine ⟨?_, ?_, ?_, ?_, ?_, ?_⟩ <;> (rw [cell_of_row w b _ _ 84 (0, 0) h]; rfl)
theorem parse_bad {t : S37} {ts : List S37} {nodes : List S56} {roots : List Int} {stk : Stk} {x : ByteArray} {f : Int} (hw : writeR t.f0 t.f1 t.f2 = (x, f)) (hf : (f != 0) = true) : parseGo (t :: ts) nodes roots stk = ([], [], t.f3, t.f4, 73) := by
  rw [parseGo, hw, if_neg (by simpa using hf)]
theorem parse_deep {t : S37} {ts : List S37} {nodes : List S56} {roots : List Int} {stk : Stk} {x : ByteArray} {f : Int} (hw : writeR t.f0 t.f1 t.f2 = (x, f)) (hf : (f != 0) = false) (h1 : t.f0 = 1) (hd : 4096 ≤ stk.length) : parseGo (t :: ts) nodes roots stk = ([], [], t.f3, t.f4, 72) := by
  rw [parseGo, hw, if_pos (by simpa using hf), if_pos h1, if_pos hd]
theorem parse_push {t : S37} {ts : List S37} {nodes : List S56} {roots : List Int} {stk : Stk} {x : ByteArray} {f : Int} (hw : writeR t.f0 t.f1 t.f2 = (x, f)) (hf : (f != 0) = false) (h1 : t.f0 = 1) (hd : ¬ 4096 ≤ stk.length) : parseGo (t :: ts) nodes roots stk = parseGo ts nodes roots (stk ++ [(t, [])]) := by
  rw [parseGo, hw, if_pos (by simpa using hf), if_pos h1, if_neg hd]
theorem parse_close0 {t : S37} {ts : List S37} {nodes : List S56} {roots : List Int} {x : ByteArray} {f : Int} (hw : writeR t.f0 t.f1 t.f2 = (x, f)) (hf : (f != 0) = false) (h1 : t.f0 = 2) : parseGo (t :: ts) nodes roots [] = ([], [], t.f3, t.f4, 70) := by
  rw [parseGo, hw, if_pos (by simpa using hf), if_neg (by omega), if_pos h1]
  rfl
theorem parse_close {t : S37} {ts : List S37} {nodes nodes' : List S56} {roots roots' : List Int} {init stk' : Stk} {g : S37 × List Int} {x : ByteArray} {f : Int} (hw : writeR t.f0 t.f1 t.f2 = (x, f)) (hf : (f != 0) = false) (h1 : t.f0 = 2) (hp : putP nodes roots init ⟨2, g.1, g.2⟩ = (nodes', roots', stk')) : parseGo (t :: ts) nodes roots (init ++ [g]) = parseGo ts nodes' roots' stk' := by
  rw [parseGo, hw, if_pos (by simpa using hf), if_neg (by omega), if_pos h1, List.getLast?_concat, List.dropLast_concat]
  show parseGo ts (putP nodes roots init ⟨2, g.1, g.2⟩).1 _ _ = _
  rw [hp]
theorem parse_atom {t : S37} {ts : List S37} {nodes nodes' : List S56} {roots roots' : List Int} {stk stk' : Stk} {x : ByteArray} {f : Int} (hw : writeR t.f0 t.f1 t.f2 = (x, f)) (hf : (f != 0) = false) (h1 : ¬ t.f0 = 1) (h2 : ¬ t.f0 = 2) (hp : putP nodes roots stk ⟨1, t, []⟩ = (nodes', roots', stk')) : parseGo (t :: ts) nodes roots stk = parseGo ts nodes' roots' stk' := by
  rw [parseGo, hw, if_pos (by simpa using hf), if_neg h1, if_neg h2, hp]
/-- Where the loop stands. -/
structure PLoop (w wr : World) (l : List S37) (k : Nat) (nodes : List S56) (roots : List Int) (st : List Opn) (vN vR vS : Value) : Prop where
  at_ : PSt w wr w.heap.size w.heap.size (w.heap.size + 1) (w.heap.size + 1 + 1) nodes roots st vN vR vS
  told : parseGo (l.drop k) nodes roots (st.map opnP) = parseR l
  n1 : nodes.length ≤ k
  n2 : roots.length ≤ k
  n3 : st.length ≤ 4096
  n4 : ∀ g ∈ st, g.kids.length ≤ k
theorem PLoop.begin (w : World) (l : List S37) : PLoop w (((w.alloc (.cells #[.slice none 0 0] 22)).alloc (.cells #[.slice none 0 0] 31)).alloc (.cells #[.slice none 0 0] 82)) l 0 [] [] [] (.slice none 0 0) (.slice none 0 0) (.slice none 0 0) := by
  have hb : Below w.heap.size w (((w.alloc (.cells #[.slice none 0 0] 22)).alloc (.cells #[.slice none 0 0] 31)).alloc (.cells #[.slice none 0 0] 82)) := (((Below.refl _ _).alloc (Nat.le_refl _) _).alloc (by simp) _).alloc (by simp; omega) _
  refine ⟨⟨hb, Nat.le_refl _, ?_, Kd.S_nil _ _ _ _ _, ⟨by omega, by omega, ?_, ?_, Kd.R_nil _ _ _ _ _, .inl (own_nil _ _ _ _), (fun g hg => by cases hg), (fun k hk g hg => by cases hg), List.Pairwise.nil⟩⟩, rfl, Nat.le_refl _, Nat.le_refl _, Nat.zero_le _, fun g hg => by cases hg⟩
  · rw [heap_alloc_old _ _ (by simp; omega), heap_alloc_old _ _ (by simp), heap_alloc_new]
  · rw [heap_alloc_old _ _ (by simp)]
    have := heap_alloc_new (w.alloc (.cells #[.slice none 0 0] 22)) (.cells #[.slice none 0 0] 31)
    simpa using this
  · have := heap_alloc_new ((w.alloc (.cells #[.slice none 0 0] 22)).alloc (.cells #[.slice none 0 0] 31)) (.cells #[.slice none 0 0] 82)
    simpa using this
set_option maxHeartbeats 8000000 in
set_option maxRecDepth 100000 in
theorem parse_tells (A0 : Option Addr) (c0 : Nat) (l0 : List S37) (w : World) (hr0 : Kd.C k37 w A0 l0.length l0) (hc0 : l0.length ≤ c0) (hn : l0.length ≤ 1099511627776) (ht : ∀ k : Nat, k < l0.length → (rd_T37 l0 k).f1.size ≤ 1099511627776) :
    Calls Tryz.prog 24 #[.slice A0 l0.length c0] w fun e w' => ∃ v0 v1 : Value, e = .returned (.tuple #[v0, v1, .int .i64 (parseR l0).2.2.1, .int .i64 (parseR l0).2.2.2.1, .int .i64 (parseR l0).2.2.2.2]) ∧ Kd.S k56 56 w' w.heap.size (fun k_ => some k_ ≠ v1.ownBlock) v0 (parseR l0).1 ∧ Kd.R (Kd.int .i64) 3 w' w.heap.size (fun _ => True) v1 (parseR l0).2.1 ∧ Below w.heap.size w w' := by
  have HR := Aside0.mk hr0
  have HT := Aside0.mk ht
  have HB0 := Aside0.mk (PLoop.begin w l0)
  clear hr0 ht
  go_enter Tryz.func24, Tryz.ntmps24
  go_wp2
  go_loopw [22] (fun i wr => ∃ (k : Nat) (nodes : List S56) (roots : List Int) (st : List Opn) (vN vR vS : Value), k ≤ l0.length ∧ i = .int .i64 k ∧ Aside0 (PLoop w wr l0 k nodes roots st vN vR vS)) (fun i _ => l0.length - (intOf i).toNat)
  case atStart => exact ⟨0, [], [], [], _, _, _, by omega, by go_num, HB0⟩
  case round =>
    obtain ⟨k, nodes, roots, st, vN, vR, vS, hk, rfl, HP⟩ := hrel
    by_cases hlt : k < l0.length
    · obtain ⟨ad, rfl, e0, e1, e2, e3, e4⟩ := at_T37 (Kd.C_below HR.out HP.out.at_.bel) k (by omega) (by omega)
      simp only [Int.toNat_natCast] at e0 e1 e2 e3 e4
      have HTk := Aside0.mk (HT.out k hlt)
      have HD := Aside0.mk (drop_at2 hlt)
      obtain ⟨t, htk⟩ : ∃ t, t = rd_T37 l0 k := ⟨_, rfl⟩
      rw [← htk] at e0 e1 e2 e3 e4 HTk HD
      clear htk
      have hbase : w.heap.size ≤ wr.heap.size := HP.out.at_.bel.size
      go_wp2_with fail
      refine (write_tells t.f0 t.f1 t.f2 t.f3 t.f4 HTk.out _).mono ?_
      rintro e w1 ⟨rfl, hb1⟩
      obtain ⟨x, f, hwx⟩ : ∃ x f, writeR t.f0 t.f1 t.f2 = (x, f) := ⟨_, _, rfl⟩
      rw [hwx]
      have HW := Aside0.mk hwx
      have hk1 := blk_below (blk_new wr (.cells #[.int .i64 t.f0, .string t.f1, .bool t.f2, .int .i64 t.f3, .int .i64 t.f4] 37)) hb1
      obtain ⟨d0, d1, d2, d3, d4⟩ := box37 hk1
      have HP1 := Aside0.mk (HP.out.at_.below (below_step (below_alloc (Below.refl _ _) _) hb1) hbase)
      have hbase1 : w.heap.size ≤ w1.heap.size := HP1.out.bel.size
      have HN := Aside0.mk (And.intro HP.out.n1 (And.intro HP.out.n2 (And.intro HP.out.n3 HP.out.n4)))
      have HQ : Aside0 (parseGo (t :: l0.drop (k + 1)) nodes roots (st.map opnP) = parseR l0) := ⟨by rw [← HD.out]; exact HP.out.told⟩
      obtain ⟨AS, cS, rfl⟩ := HP1.out.rest.formS
      have s2 := var_cell HP1.out.rest.cS
      clear hwx hb1 e0 e1 e2 e3 e4 hk1 HP HD hbase
      cases hf : (f != 0) with
      | true =>
        have HE : Aside0 (parseR l0 = ([], [], t.f3, t.f4, 73)) := ⟨by rw [← HQ.out, parse_bad HW.out hf]⟩
        go_wp2_with fail
        refine (sfault_calls t 73 _).mono ?_
        rintro e w2 ⟨rfl, hb2⟩
        have HB2 := Aside0.mk (below_then HP1.out.bel hbase1 hb2)
        go_wp2
        refine bodyPost_ret (results_list (rs := [.tmp 2, .tmp 3, .tmp 4, .tmp 5, .tmp 6]) rfl (by simp) (.tmp (.tmp (.tmp (.tmp (.tmp .nil)))))) rfl ?_
        rw [HE.out]
        exact ⟨_, _, rfl, Kd.S_nil _ _ _ _ _, Kd.R_nil _ _ _ _ _, HB2.out⟩
      | false =>
        cases h1 : (t.f0 == 1) with
        | true =>
          have H1 : Aside0 (t.f0 = 1) := ⟨by simpa using h1⟩
          by_cases hd : 4096 ≤ st.length
          · have hg : decide ((4096 : Int) ≤ ((st.length : Nat) : Int)) = true := decide_eq_true (by omega)
            have HE : Aside0 (parseR l0 = ([], [], t.f3, t.f4, 72)) := ⟨by rw [← HQ.out, parse_deep HW.out hf H1.out (by rw [List.length_map]; exact hd)]⟩
            go_wp2_with fail
            refine (sfault_calls t 72 _).mono ?_
            rintro e w2 ⟨rfl, hb2⟩
            have HB2 := Aside0.mk (below_then HP1.out.bel hbase1 hb2)
            go_wp2
            refine bodyPost_ret (results_list (rs := [.tmp 2, .tmp 3, .tmp 4, .tmp 5, .tmp 6]) rfl (by simp) (.tmp (.tmp (.tmp (.tmp (.tmp .nil)))))) rfl ?_
            rw [HE.out]
            exact ⟨_, _, rfl, Kd.S_nil _ _ _ _ _, Kd.R_nil _ _ _ _ _, HB2.out⟩
          · have hg : decide ((4096 : Int) ≤ ((st.length : Nat) : Int)) = false := decide_eq_false (by omega)
            have HE := Aside0.mk (parse_push (ts := l0.drop (k + 1)) (nodes := nodes) (roots := roots) (stk := st.map opnP) HW.out hf H1.out (by rw [List.length_map]; exact hd))
            go_wp2_with (at_builtin; (refine stk_append (w0 := w) (W := w1) w.heap.size rfl (.tmp 60) (.tmp 63) 82 84 _ 6 72 rfl Tryz.underlying82 info84 rfl (by decide) (by decide) (.slice AS st.length cS) st.length (flatO st) [.int .i64 t.f0, .string t.f1, .bool t.f2, .int .i64 t.f3, .int .i64 t.f4, .slice none 0 0] rfl (by simp [Act.eval]) rfl (by intro u hu; simp at hu; rcases hu with rfl | rfl | rfl | rfl | rfl | rfl <;> rfl) HP1.out.rest.rS HP1.out.bel hbase1 (by omega) ?_; intro v1 w2 hO hb2 hg2 hat2; obtain ⟨A2, c2, hv2⟩ := own_slice hO; subst hv2; have f1 := var_frozen (HP1.out.cS_grown hg2); have k1 := var_cell (HP1.out.cS_grown hg2); have HP2 := Aside0.mk (HP1.out.pushed (t := t) hO hb2 hg2); clear hO hb2 hg2 hat2))
            go_roundw
            case rel => exact ⟨k + 1, nodes, roots, st ++ [⟨t, [], .slice none 0 0⟩], _, _, _, by omega, by go_num, ⟨⟨HP2.out, by rw [List.map_append]; exact HE.out.symm.trans HQ.out, by have := HN.out.1; omega, by have := HN.out.2.1; omega, by rw [List.length_append, List.length_singleton]; omega, fun g hg => by
              rcases List.mem_append.1 hg with hg | hg
              · have := HN.out.2.2.2 g hg; omega
              · rw [List.mem_singleton.1 hg]; exact Nat.zero_le _⟩⟩⟩
            case measure => simp [intOf]; omega
        | false =>
          have H1 : Aside0 (¬ t.f0 = 1) := ⟨by simpa using h1⟩
          cases h2 : (t.f0 == 2) with
          | true =>
            have H2 : Aside0 (t.f0 = 2) := ⟨by simpa using h2⟩
            rcases nil_or_snoc st with rfl | ⟨init, g, rfl⟩
            · have HE : Aside0 (parseR l0 = ([], [], t.f3, t.f4, 70)) := ⟨by rw [← HQ.out, List.map_nil, parse_close0 HW.out hf H2.out]⟩
              go_wp2_with fail
              refine (sfault_calls t 70 _).mono ?_
              rintro e w2 ⟨rfl, hb2⟩
              have HB2 := Aside0.mk (below_then HP1.out.bel hbase1 hb2)
              go_wp2
              refine bodyPost_ret (results_list (rs := [.tmp 2, .tmp 3, .tmp 4, .tmp 5, .tmp 6]) rfl (by simp) (.tmp (.tmp (.tmp (.tmp (.tmp .nil)))))) rfl ?_
              rw [HE.out]
              exact ⟨_, _, rfl, Kd.S_nil _ _ _ _ _, Kd.R_nil _ _ _ _ _, HB2.out⟩
            · obtain ⟨gt, gk, gv⟩ := g
              obtain ⟨Ag, cg, hgv⟩ := Kd.R_slice (HP1.out.rest.rK ⟨gt, gk, gv⟩ (by simp))
              have hgv : gv = .slice Ag gk.length cg := hgv
              subst hgv
              obtain ⟨gS, cap, cells, hv, hcap, -⟩ := HP1.out.rest.last
              rw [hv] at HP1 s2
              clear hv
              obtain ⟨q0, q1, q2, q3, q4, q5⟩ := HP1.out.top
              have hwr : wrap64 ((init.length : Int) + 1 - 1) = init.length := by have := HN.out.2.2.1; rw [List.length_append] at this; unfold wrap64; omega
              have hwr3 : wrap64 (init.length : Int) = init.length := by have := HN.out.2.2.1; rw [List.length_append] at this; unfold wrap64; omega
              have hneg : decide (((init.length : Nat) : Int) < 0) = false := decide_eq_false (by omega)
              have hlt1 : ((init.length : Int) < (init.length : Int) + 1) = True := eq_true (Int.lt_add_one_of_le (Int.le_refl _))
              have hle0 : ((0 : Int) ≤ (init.length : Int)) = True := eq_true (Int.natCast_nonneg _)
              have hlc : ((init.length : Int) ≤ (cap : Int)) = True := eq_true (by omega)
              have HPa := HP1.out.below (below_alloc (Below.refl _ _) (.cells #[.int .i64 gt.f0, .string gt.f1, .bool gt.f2, .int .i64 gt.f3, .int .i64 gt.f4, .slice Ag gk.length cg] 84)) hbase1
              have hk8 := blk_new w1 (.cells #[.int .i64 gt.f0, .string gt.f1, .bool gt.f2, .int .i64 gt.f3, .int .i64 gt.f4, .slice Ag gk.length cg] 84)
              have hne8 : w1.heap.size ≠ w.heap.size + 1 + 1 := by have := blk_lt HP1.out.rest.cS; omega
              have f2 := var_frozen HPa.rest.cS
              have HPOP := Aside0.mk HPa.popped
              have HK8 : Aside0 (((w1.alloc (.cells #[.int .i64 gt.f0, .string gt.f1, .bool gt.f2, .int .i64 gt.f3, .int .i64 gt.f4, .slice Ag gk.length cg] 84)).setCell ⟨w.heap.size + 1 + 1, 0, none⟩ (.slice (some ⟨gS, 0, none⟩) init.length init.length)).heap[w1.heap.size]? = some (.cells #[.int .i64 gt.f0, .string gt.f1, .bool gt.f2, .int .i64 gt.f3, .int .i64 gt.f4, .slice Ag gk.length cg] 84 (0, 0))) := ⟨(set_far hne8 _).trans hk8⟩
              have s3 := var_cell HPa.rest.cS
              clear HPa hk8 hne8
              go_upto_region 24 with (fail)
              obtain ⟨w2, hw2⟩ : ∃ w2, w2 = ((w1.alloc (.cells #[.int .i64 gt.f0, .string gt.f1, .bool gt.f2, .int .i64 gt.f3, .int .i64 gt.f4, .slice Ag gk.length cg] 84)).setCell ⟨w.heap.size + 1 + 1, 0, none⟩ (.slice (some ⟨gS, 0, none⟩) init.length init.length)) := ⟨_, rfl⟩
              rw [← hw2] at HPOP HK8 ⊢
              clear hw2
              obtain ⟨r0, r1, r2, r3, r4, r5⟩ := box84 HK8.out
              obtain ⟨P2, S2, K2, A2⟩ := HPOP.out
              have HP2 := Aside0.mk P2
              have HS2 := Aside0.mk S2
              have HK2 := Aside0.mk K2
              have HA2 := Aside0.mk A2
              have hb2 : w.heap.size ≤ w2.heap.size := P2.bel.size
              clear P2 S2 K2 A2 HPOP HK8 HP1 q0 q1 q2 q3 q4 q5 s2 s3 f2 d0 d1 d2 d3 d4
              go_wp2_with fail
              refine (sput w w.heap.size _ _ _ nodes roots init vN vR _ ⟨2, gt, gk⟩ Ag gk.length cg w2 HP2.out hb2 HS2.out HK2.out HA2.out (by have := HN.out.1; omega) (by have := HN.out.2.1; omega) (fun g hg => by have := HN.out.2.2.2 g (List.mem_append_left _ hg); omega) (by have := HN.out.2.2.1; rw [List.length_append] at this; omega)).mono ?_
              rintro e w3 ⟨rfl, nodes', roots', st', vN', vR', P3, hp, m1, m2, m3, m4⟩
              have HP3 : Aside0 (PLoop w w3 l0 (k + 1) nodes' roots' st' vN' vR' (.slice (some ⟨gS, 0, none⟩) init.length init.length)) := ⟨⟨P3, by rw [← HQ.out, List.map_append]; exact (parse_close (g := (gt, gk)) HW.out hf H2.out hp).symm, by have := HN.out.1; omega, by have := HN.out.2.1; omega, by have := HN.out.2.2.1; rw [List.length_append] at this; omega, m4 k (fun g hg => HN.out.2.2.2 g (List.mem_append_left _ hg))⟩⟩
              clear P3 hp m1 m2 m3 m4
              go_wp2
              go_roundw
              case rel => exact ⟨k + 1, nodes', roots', st', _, _, _, by omega, by go_num, HP3⟩
              case measure => simp [intOf]; omega
          | false =>
            have H2 : Aside0 (¬ t.f0 = 2) := ⟨by simpa using h2⟩
            go_wp2_with fail
            refine (sput w w.heap.size _ _ _ nodes roots st vN vR _ ⟨1, t, []⟩ none 0 0 w1 HP1.out hbase1 (Kd.S_mono HP1.out.rN (fun k hk => ⟨hk, by simp [Value.ownBlock]⟩)) (Kd.R_nil _ _ _ _ _) (fun k hk => by simp [Value.ownBlock] at hk) (by have := HN.out.1; omega) (by have := HN.out.2.1; omega) (fun g hg => by have := HN.out.2.2.2 g hg; omega) (by have := HN.out.2.2.1; omega)).mono ?_
            rintro e w3 ⟨rfl, nodes', roots', st', vN', vR', P3, hp, m1, m2, m3, m4⟩
            have HP3 : Aside0 (PLoop w w3 l0 (k + 1) nodes' roots' st' vN' vR' (.slice AS st.length cS)) := ⟨⟨P3, by rw [← HQ.out, parse_atom HW.out hf H1.out H2.out hp], by have := HN.out.1; omega, by have := HN.out.2.1; omega, by have := HN.out.2.2.1; omega, m4 k HN.out.2.2.2⟩⟩
            clear P3 hp m1 m2 m3 m4
            go_wp2
            go_roundw
            case rel => exact ⟨k + 1, nodes', roots', st', _, _, _, by omega, by go_num, HP3⟩
            case measure => simp [intOf]; omega
    · obtain rfl : k = l0.length := by omega
      have HQ2 : Aside0 (parseGo [] nodes roots (st.map opnP) = parseR l0) := ⟨by have := HP.out.told; rw [List.drop_length] at this; exact this⟩
      obtain ⟨AS, cS, rfl⟩ := HP.out.at_.rest.formS
      have s2 := var_cell HP.out.at_.rest.cS
      rcases nil_or_snoc st with rfl | ⟨init, g, rfl⟩
      · have HE : Aside0 (parseR l0 = (nodes, roots, 0, 0, 0)) := ⟨by rw [← HQ2.out]; rfl⟩
        have s0 := var_cell HP.out.at_.cN
        have s1 := var_cell HP.out.at_.rest.cR
        go_wp2
        go_quiet (fail)
        go_wp2
        refine bodyPost_ret (results_list (rs := [.tmp 2, .tmp 3, .tmp 4, .tmp 5, .tmp 6]) rfl (by simp) (.tmp (.tmp (.tmp (.tmp (.tmp .nil)))))) rfl ?_
        rw [HE.out]
        refine ⟨_, _, rfl, Kd.S_drewN (show Kd.S k56 56 wr w.heap.size (fun k_ => some k_ ≠ vR.ownBlock) vN nodes from Kd.S_mono HP.out.at_.rN (fun k hk e => hk.2 e.symm)) _, Kd.R_drewN HP.out.at_.rest.rR _, pw_below_drewN HP.out.at_.bel _⟩
      · obtain ⟨gS, cap, cells, hv, hcap, -⟩ := HP.out.at_.rest.last
        rw [hv] at HP s2
        clear hv
        obtain ⟨q0, q1, q2, q3, q4, q5⟩ := HP.out.at_.top
        have hgt : decide ((0 : Int) < (init.length : Int) + 1) = true := decide_eq_true (by omega)
        have hil : init.length ≤ 4096 := by have := HP.out.n3; rw [List.length_append] at this; omega
        have hwr : wrap64 ((init.length : Int) + 1 - 1) = init.length := by unfold wrap64; omega
        have hwr3 : wrap64 (init.length : Int) = init.length := by unfold wrap64; omega
        have hlt1 : ((init.length : Int) < (init.length : Int) + 1) = True := eq_true (Int.lt_add_one_of_le (Int.le_refl _))
        have hle0 : ((0 : Int) ≤ (init.length : Int)) = True := eq_true (Int.natCast_nonneg _)
        have HE : Aside0 (parseR l0 = ([], [], g.tok.f3, g.tok.f4, 71)) := ⟨by
          rw [← HQ2.out, parseGo, List.map_append]
          show (match (init.map opnP ++ [opnP g]).getLast? with | none => _ | some g => _) = _
          rw [List.getLast?_concat]
          rfl⟩
        go_wp2_with fail
        refine (sfault_calls g.tok 71 _).mono ?_
        rintro e w2 ⟨rfl, hb2⟩
        have HB2 := Aside0.mk (below_then HP.out.at_.bel HP.out.at_.bel.size hb2)
        go_wp2
        refine bodyPost_ret (results_list (rs := [.tmp 2, .tmp 3, .tmp 4, .tmp 5, .tmp 6]) rfl (by simp) (.tmp (.tmp (.tmp (.tmp (.tmp .nil)))))) rfl ?_
        rw [HE.out]
        exact ⟨_, _, rfl, Kd.S_nil _ _ _ _ _, Kd.R_nil _ _ _ _ _, HB2.out⟩
def sexp_Parse.f (l0 : List (S37)) : Option ((List (S56)) × List Int × Int × Int × Int) := if l0.length ≤ 1099511627776 ∧ l0.all (fun t => decide (t.f1.size ≤ 1099511627776)) = true then some (parseR l0) else none
theorem sexp_Parse.calls (A0 : Option Addr) (c0 : Nat) (l0 : List (S37)) (r1 : List (S56)) (r2 : List Int) (r3 : Int) (r4 : Int) (r5 : Int) (w : World) (hr0 : Kd.C k37 w A0 l0.length l0) (hc0 : l0.length ≤ c0) (h : sexp_Parse.f l0 = some (r1, r2, r3, r4, r5)) :
    Calls Tryz.prog 24 #[.slice A0 l0.length c0] w fun e w' => ∃ v0_ v1_ : Value, e = .returned (.tuple #[v0_, v1_, .int .i64 r3, .int .i64 r4, .int .i64 r5]) ∧ Kd.S k56 56 w' w.heap.size (fun k_ => some k_ ≠ (v1_ : Value).ownBlock) v0_ r1 ∧ Kd.R (Kd.int .i64) 3 w' w.heap.size (fun _ => True) v1_ r2 ∧ Below w.heap.size w w' := by
  unfold sexp_Parse.f at h
  split at h
  · rename_i hs
    injection h with h
    have := parse_tells A0 c0 l0 w hr0 hc0 hs.1 (fun k hk => by
      have h2 := List.all_eq_true.1 hs.2 (l0[k]) (List.getElem_mem hk)
      unfold rd_T37
      simp only [Int.toNat_natCast, List.getD_eq_getElem?_getD, List.getElem?_eq_getElem hk, Option.getD_some]
      exact of_decide_eq_true h2)
    rw [h] at this
    exact this
  · cases h
end
end Go.Proofs.YthklnopfgoekeaaGreatDoor.X
