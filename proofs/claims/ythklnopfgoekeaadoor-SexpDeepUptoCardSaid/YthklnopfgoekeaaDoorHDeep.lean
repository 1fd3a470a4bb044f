/- Printed words that were struck off: append of a whole row, a row's first part, a cut at a length. An argument of tokens, opened: its cells read as a list of tokens. What the bound of a second form gives for a slice of tokens: few tokens, short texts. SexpDeep: the law's walk: k parentheses about one symbol, and a row of at most 1048576 tokens behind them. -/
import Derived.Test.YthklnopfgoekeaaDoorHParse
import Derived.Test.YthklnopfgoekeaaDoorX0
import Derived.Deep.Slices
import Derived.ChangeArms
import Derived.Test.YthklnopfgoekeaaDoorRows
import Derived.Test.YthklnopfgoekeaaDoorHRParse
import Derived.Test.YthklnopfgoekeaaDoorPAlive
import Derived.Test.YthklnopfgoekeaaDoorPDeep
import Derived.StillTailTactics
namespace Go.Proofs.YthklnopfgoekeaaDoor.X
section
section
open Go.RowKit Go.Proofs.YthklnopfgoekeaaDoorW.PrintWords Go.Proofs.YthklnopfgoekeaaDoorW.PrintLast Go.Proofs.YthklnopfgoekeaaDoorW.PrintMore
set_option linter.unusedVariables false

theorem reps_append {α : Type} {R : α → List Value → Prop} {size : Nat} {ps qs : List α} {cs ds : List Value} (h : Reps R size ps cs) (h' : Reps R size qs ds) : Reps R size (ps ++ qs) (cs ++ ds) := by
  refine ⟨by rw [List.length_append, List.length_append, h.1, h'.1, Nat.add_mul], fun j p hj => ?_⟩
  rcases Nat.lt_or_ge j ps.length with hlt | hge
  · rw [List.getElem?_append_left hlt] at hj
    have hle : j * size + size ≤ cs.length := by rw [h.1, ← Nat.succ_mul]; exact Nat.mul_le_mul_right _ hlt
    rw [List.drop_append_of_le_length (by omega), List.take_append_of_le_length (by rw [List.length_drop]; omega)]
    exact h.2 j p hj
  · rw [List.getElem?_append_right hge] at hj
    have h2 := h'.2 (j - ps.length) p hj
    have hle : ps.length * size ≤ j * size := Nat.mul_le_mul_right _ hge
    rw [List.drop_append, List.drop_eq_nil_of_le (by rw [h.1]; exact hle), List.nil_append, h.1, ← Nat.sub_mul]
    exact h2
theorem inner_rows {α : Type} {R : α → List Value → Prop} {size : Nat} {w : World} {ad : Addr} {n : Nat} {ps : List α} (h : ReadsRow R size w (some ad) n ps) :
    ∃ inner, Reps R size ps inner ∧ ∀ j u, inner[j]? = some u → w.cell? (ad.add j) = some u := by
  have key : ∀ m, m ≤ ps.length → ∃ inner, Reps R size (ps.take m) inner ∧ ∀ j u, inner[j]? = some u → w.cell? (ad.add j) = some u := by
    intro m
    induction m with
    | zero => exact fun _ => ⟨[], Reps.none _ _, fun j u hu => by simp at hu⟩
    | succ m ih =>
      intro hm
      obtain ⟨inner, hr, hc⟩ := ih (by omega)
      obtain ⟨ad', he, hcell⟩ := h.2.2 (by have := h.1; omega)
      injection he with he
      subst he
      obtain ⟨c, hcl, hp, hcc⟩ := hcell m _ (List.getElem?_eq_getElem (show m < ps.length by omega))
      refine ⟨inner ++ c, ?_, fun j u hu => ?_⟩
      · rw [List.take_succ_eq_append_getElem (show m < ps.length by omega)]
        exact hr.snoc hp hcl
      · have hil : inner.length = m * size := by rw [hr.1, List.length_take, Nat.min_eq_left (by omega)]
        rcases Nat.lt_or_ge j inner.length with hj | hj
        · rw [List.getElem?_append_left hj] at hu
          exact hc j u hu
        · rw [List.getElem?_append_right hj] at hu
          have := hcc (j - inner.length) u hu
          rwa [hil, Nat.add_sub_cancel' (by omega)] at this
  obtain ⟨inner, hr, hc⟩ := key ps.length (Nat.le_refl _)
  rw [List.take_length] at hr
  exact ⟨inner, hr, hc⟩
namespace Kd
section
variable {P : Program} {ops : Array Oper} {rest : List Oper} {o : Oper} {a : Act} {Q : Exit → Act → World → Prop} {α : Type}
theorem R_append_rows (d : Kd α) {Rr : α → List Value → Prop} {w0 W : World} (base : Nat) (hgd : o.guard = none) (s x : Operand) (t e : TypeId) (z : Value) (bytes : Nat)
    (ho : o.op = .call { callee := .builtin .append, args := #[s, x], argTypes := #[t, t] })
    (ht : P.underlying t = some (.slice e)) (hinfo : (P.info? e).map (fun i => (i.zero, i.size, i.bytes)) = some (some z, d.sz, bytes)) (hz : z.cells.size = d.sz) (hs0 : 0 < d.sz) (hb0 : 0 < bytes)
    (v : Value) (xs ys : List α) (A : Option Addr) (m c : Nat) (ok okp : Nat → Prop) (hs : a.eval s = v) (hx : a.eval x = .slice A m c)
    (HO : d.R e W base ok v xs) (HR : ReadsRow Rr d.sz W A m ys) (hKM : ∀ x cs, Rr x cs → d.M W base okp x cs) (hokp : ∀ k, okp k → ok k ∧ some k ≠ v.ownBlock) (hfresh : ∀ k, W.heap.size ≤ k → ok k)
    (HB : Below base w0 W) (hbase : base ≤ W.heap.size) (hl : (xs.length + m) * bytes ≤ 140737488355328)
    (h : ∀ v1 w1, d.R e w1 base ok v1 (xs ++ ys) → Below base w0 w1 → W.grownBy w1 v.ownBlock → (v1.ownBlock = v.ownBlock ∨ ∃ b, v1.ownBlock = some b ∧ W.heap.size ≤ b) → wpList P ops Q rest (a.put o.dst v1) w1) :
    wpList P ops Q (o :: rest) a W := by
  obtain ⟨i0, hi, hzz⟩ := Option.map_eq_some_iff.1 hinfo
  simp only [Prod.mk.injEq] at hzz
  obtain ⟨hz0, hz1, hz2⟩ := hzz
  have hm : ys.length = m := HR.1
  have hlen : xs.length + m ≤ 140737488355328 := Nat.le_trans (Nat.le_mul_of_pos_right _ hb0) hl
  obtain ⟨hok, inner, hown, hr⟩ := HO
  have hrun : ∃ v1 w1, (Builtin.append_ #[t, t] o.type #[v, .slice A m c]).run P W = .ok v1 w1 ∧ d.R e w1 base ok v1 (xs ++ ys) ∧ W.grownBy w1 v.ownBlock ∧ (v1.ownBlock = v.ownBlock ∨ ∃ b, v1.ownBlock = some b ∧ W.heap.size ≤ b) := by
    rcases A with _ | ad
    · have h0 : m = 0 := by
        rcases Nat.eq_zero_or_pos m with h0 | h0
        · exact h0
        · obtain ⟨ad, h, _⟩ := HR.2.2 h0
          cases h
      subst h0
      obtain rfl : ys = [] := List.eq_nil_of_length_eq_zero hm
      refine ⟨v, W, ?_, by rw [List.append_nil]; exact ⟨hok, inner, hown, hr⟩, World.grownBy.refl W _, .inl rfl⟩
      rcases hown.2 with ⟨rfl, hn⟩ | ⟨g, cap, cur, rfl, _, _, hnc, _⟩
      · simp [Builtin.append_, run_underlying ht, sizeOf, typeInfo, hi, Builtin.lenOf, Builtin.firstCells]
      · simp [Builtin.append_, run_underlying ht, sizeOf, typeInfo, hi, Builtin.lenOf, Builtin.firstCells, hnc, storeCells]
    · obtain ⟨news, hnr, hnc⟩ := inner_rows HR
      have hnM : Reps (d.M W base okp) d.sz ys news := hnr.imp_ (fun p c hp => hKM p c hp)
      have hone : ∀ u ∈ news, u.oneCell' = true := by
        intro u hu
        obtain ⟨q, hq, rfl⟩ := List.mem_iff_getElem.1 hu
        have hql : q / d.sz < ys.length := by
          rw [Nat.div_lt_iff_lt_mul hs0]
          rw [← hnM.1]
          exact hq
        have hc := hnM.2 (q / d.sz) _ (List.getElem?_eq_getElem hql)
        refine d.K_one (d.K_of_M hc) _ ?_
        rw [List.mem_iff_getElem?]
        refine ⟨q % d.sz, ?_⟩
        rw [List.getElem?_take, if_pos (Nat.mod_lt _ hs0), List.getElem?_drop, Nat.mul_comm, Nat.div_add_mod, List.getElem?_eq_getElem hq]
      obtain ⟨v1, w1, hrun, h2, hg, _, hat⟩ := run_append_own_at (P := P) W base t o.type e i0 z d.sz bytes ht hi hz0 hz1 hz2 hz hs0 v xs.length inner hown ad m c news (by rw [hnM.1, hm]) hnc hone (by simp only [maxLen]; omega) hl hbase
      have hat' : v1.ownBlock = v.ownBlock ∨ ∃ b, v1.ownBlock = some b ∧ W.heap.size ≤ b := by
        rcases hat with hat | hat
        · exact .inl hat
        · exact .inr ⟨_, hat, Nat.le_refl _⟩
      have hne : ∀ k, some k ≠ v.ownBlock → k < W.heap.size → some k ≠ v1.ownBlock := by
        intro k hk hlt
        rcases hat' with hat | ⟨b, hb, hle⟩
        · rw [hat]; exact hk
        · rw [hb]
          intro he
          injection he with he
          omega
      have step : ∀ {q : α} {c : List Value} {o : Nat → Prop}, d.M W base o q c → (∀ k, o k → ok k ∧ some k ≠ v.ownBlock) → d.M w1 base (fun k => ok k ∧ some k ≠ v1.ownBlock) q c := by
        intro q c o hq ho
        have h1 := d.M_move (w1 := w1) (fun k hk => hg.block k hk.2.2.1 (ho k hk.1).2) (d.M_bound hq)
        exact d.M_mono (fun k hk => ⟨(ho k hk.1).1, hne k (ho k hk.1).2 hk.2.2.1⟩) h1
      refine ⟨v1, w1, hrun, ⟨fun k hk => ?_, inner ++ news, by rw [List.length_append, hm]; exact h2, reps_append (hr.imp_ (fun _ _ hq => step hq (fun _ hk => hk))) (hnM.imp_ (fun _ _ hq => step hq hokp))⟩, hg, hat'⟩
      rcases hat' with hat | ⟨b, hb, hle⟩
      · exact hok k (hat ▸ hk)
      · rw [hb] at hk
        injection hk with hk
        exact hfresh k (by omega)
  obtain ⟨v1, w1, hr1, h1, hg, hat⟩ := hrun
  refine wpList_plain hgd fun K hK => ?_
  unfold Oper.wp execOp
  simp only [ho, resolve, invoke, builtin, Sem.run_bind, Sem.run_pure, Result.andThen_ok, List.map_toArray, List.map_cons, List.map_nil, hs, hx, hr1]
  exact hK _ _ (h v1 w1 h1 (HB.grown hg hbase (own_base hown)) hg hat)
end
section
variable {α : Type} {k : Kd α} {w : World} {A : Option Addr} {xs : List α} {m c : Nat}
theorem C_take (h : k.C w A xs.length xs) (hm : m ≤ xs.length) : k.C w A (xs.take m).length (xs.take m) := by
  have hl : (xs.take m).length = m := by rw [List.length_take]; omega
  refine ⟨rfl, by rw [hl]; have := h.2.1; omega, fun hp => ?_⟩
  obtain ⟨ad, e, hc⟩ := h.2.2 (by omega)
  refine ⟨ad, e, fun j p hj => hc j p ?_⟩
  rw [List.getElem?_take] at hj
  split at hj
  · exact hj
  · cases hj
end
end Kd
section
variable {P : Program}
theorem cut_to (t e : TypeId) (kh : IntKind) {i : TypeInfo} (ht : P.underlying t = some (.slice e)) (hi : P.info? e = some i) (A : Option Addr) (n c : Nat) (j : Int) (h0 : 0 ≤ j) (hm : j ≤ n) (hc : n ≤ c) :
    ∀ W : World, (Instr.slice t (.slice A n c) none (some (.int kh j)) none).run P W = .ok (.slice A j.toNat c) W := by
  intro W
  have hel : P.elem t = e := by simp [Program.elem, ht]
  have hu : P.underlying t = some (.slice (P.elem t)) := by rw [hel]; exact ht
  have ha : (A.map fun x => x.add 0) = A := by cases A <;> simp [Addr.add]
  rw [run_slice_h W t A n c hu kh j h0 (by omega), hel]
  simp [sizeOf, typeInfo, hi, sliced, Result.andThen, ha]
end
end
section
section
open Go.RowKit Go.Proofs.YthklnopfgoekeaaDoorW.PrintWords Go.Proofs.YthklnopfgoekeaaDoorW.PrintLast Go.Proofs.YthklnopfgoekeaaDoorW.PrintMore
open Go.ChangeShapes Go.WideShapes
set_option linter.unusedVariables false

theorem tok_cells : Tryd.prog.cellsOf 38 = 5 := by kernel_rfl
/-- A token's datum. -/
def tokD {H : Type} (t : S38) : DataW H := .agg [.lit (.int .i64 t.f0), .lit (.string t.f1.data.toList), .lit (.bool t.f2), .lit (.int .i64 t.f3), .lit (.int .i64 t.f4)]
set_option maxRecDepth 100000 in
theorem open_tok {H : Type} {enc : TypeId × Value → H} {w : World} {base fuel : Nat} {spare : Nat → Bool} {held : Bool} {cs : List Value} {x : DataW H × List MemPlace}
    (h : DataW.trod enc Tryd.prog w base spare held fuel 38 cs = some x) : ∃ t : S38, cs = [.int .i64 t.f0, .string t.f1, .bool t.f2, .int .i64 t.f3, .int .i64 t.f4] ∧ x.1 = tokD t := by
  obtain ⟨xs, n, -, hx, hl, hlen, hf⟩ := DataW.trod_struct Tryd.underlying38 h
  rw [tok_cells] at hl
  match xs, hlen, cs, hl with
  | [y0, y1, y2, y3, y4], _, [v0, v1, v2, v3, v4], _ =>
    have g0 := hf 0 _ rfl
    have g1 := hf 1 _ rfl
    have g2 := hf 2 _ rfl
    have g3 := hf 3 _ rfl
    have g4 := hf 4 _ rfl
    simp only [List.getElem?_cons_zero, List.getElem?_cons_succ] at g0 g1 g2 g3 g4
    obtain ⟨n0, e0, z0, -⟩ := DataW.trod_int Tryd.underlying36 g0
    obtain ⟨s1, e1, z1, -⟩ := DataW.trod_string Tryd.underlying9 g1
    obtain ⟨b2, e2, z2⟩ := DataW.trod_bool Tryd.underlying4 g2
    obtain ⟨n3, e3, z3, -⟩ := DataW.trod_int Tryd.underlying3 g3
    obtain ⟨n4, e4, z4, -⟩ := DataW.trod_int Tryd.underlying3 g4
    injection e0 with e0 _
    injection e1 with e1 _
    injection e2 with e2 _
    injection e3 with e3 _
    injection e4 with e4 _
    subst e0 e1 e2 e3 e4
    refine ⟨⟨n0, s1, b2, n3, n4⟩, rfl, ?_⟩
    rw [hx]
    simp [tokD, z0, z1, z2, z3, z4]
instance : Inhabited S38 := ⟨z38⟩
/-- A slice of tokens, opened. -/
theorem open_toks {H : Type} {enc : TypeId × Value → H} {w : World} {held : Bool} {A : Option Addr} {len cap fuel : Nat} {x : DataW H × List MemPlace}
    (h : DataW.trod enc Tryd.prog w 0 (fun _ => true) held fuel 22 [.slice A len cap] = some x) :
    ∃ xs : List S38, xs.length = len ∧ len ≤ cap ∧ Kd.C k38 w A xs.length xs ∧ (x.1 = .nil ∧ xs = [] ∨ ∃ sp, x.1 = .slice (xs.map tokD) sp) := by
  rcases Go.Deep.open_slice Tryd.underlying22 h with ⟨hcs, hx⟩ | ⟨a, l, c, m, n, D, Pl, hcs, -, hl, hm, hmm, hx, hel⟩
  · injection hcs with hcs _
    injection hcs with h1 h2 h3
    subst h1 h2 h3
    exact ⟨[], rfl, Nat.le_refl _, Kd.C_nil _ _, .inl ⟨by rw [hx], rfl⟩⟩
  · injection hcs with hcs _
    injection hcs with h1 h2 h3
    subst h1 h2 h3
    have hmc : m = cap := by rw [hmm]; rfl
    subst hmc
    have each : ∀ i, i < m → ∃ t : S38, (∀ j u, ([.int .i64 t.f0, .string t.f1, .bool t.f2, .int .i64 t.f3, .int .i64 t.f4] : List Value)[j]? = some u → w.cell? (a.add (i * 5 + j)) = some u) ∧ D i = tokD t := by
      intro i hi
      obtain ⟨cs', h1, h2⟩ := hel i hi
      rw [tok_cells] at h1
      obtain ⟨t, ht, hd⟩ := open_tok h2
      obtain ⟨_, hlen, hcell⟩ := World.cells?_some h1
      refine ⟨t, fun j u hj => ?_, hd⟩
      rw [← ht] at hj
      have hj5 : j < 5 := by
        have := (List.getElem?_eq_some_iff.1 hj).1
        omega
      have := hcell j hj5
      rw [Go.Deep.add_add] at this
      rw [this, hj]
    obtain ⟨f, hf⟩ := Go.Deep.choose_lt each
    refine ⟨(List.range len).map f, by simp, hl, ⟨by simp, ?_, fun _ => ⟨a, rfl, ?_⟩⟩, .inr ⟨(List.range (m - len)).map fun j => D (len + j), ?_⟩⟩
    · simp
      have : maxLen = 9223372036854775807 ∨ maxLen ≤ 9223372036854775807 := by first | (left; rfl) | (right; decide)
      omega
    · intro j p hj
      rw [List.getElem?_map] at hj
      obtain ⟨i, hi, rfl⟩ := Option.map_eq_some_iff.1 hj
      have hjl : j < len := by
        have := (List.getElem?_eq_some_iff.1 hi).1
        simpa using this
      have hij : i = j := by
        rw [List.getElem?_range hjl] at hi
        exact (Option.some.inj hi).symm
      subst hij
      exact ⟨_, rfl, k38_mk w _, fun k u hk => (hf i (by omega)).1 k u hk⟩
    · rw [hx]
      show DataW.slice _ _ = _
      congr 1
      rw [List.map_map]
      exact List.map_congr_left (fun i hi => (hf i (by have := List.mem_range.1 hi; omega)).2)
end
section
open Go.RowKit
set_option linter.unusedVariables false
theorem bulk_tok {H : Type} (t : S38) : t.f1.size + 1 ≤ Rows.uptoBulk (tokD (H := H) t) := by
  unfold tokD
  have e : t.f1.data.toList.length = t.f1.size := rfl
  simp only [Rows.uptoBulk, Rows.uptoBulkAll]
  omega
theorem bulk_toks {H : Type} : ∀ xs : List S38, xs.length ≤ Rows.uptoBulkAll (xs.map (tokD (H := H))) ∧ ∀ t ∈ xs, t.f1.size ≤ Rows.uptoBulkAll (xs.map (tokD (H := H)))
  | [] => ⟨Nat.zero_le _, fun t ht => by cases ht⟩
  | x :: xs => by
    obtain ⟨h1, h2⟩ := bulk_toks (H := H) xs
    have h3 := bulk_tok (H := H) x
    rw [List.map_cons, Rows.uptoBulkAll, List.length_cons]
    refine ⟨by omega, fun t ht => ?_⟩
    rcases List.mem_cons.1 ht with rfl | ht
    · omega
    · have := h2 t ht; omega
/-- Few tokens and short texts, under the bound. -/
theorem small_toks {H : Type} {d : DataW H} {r : List (DataW H)} {xs : List S38} (h : Rows.uptoSmall H (d :: r) = true) (hd : d = .nil ∧ xs = [] ∨ ∃ sp, d = .slice (xs.map tokD) sp) : xs.length ≤ 1048576 ∧ ∀ t ∈ xs, t.f1.size ≤ 1048576 := by
  have hb : Rows.uptoBulkAll (d :: r) ≤ 1048576 := by simpa [Rows.uptoSmall] using h
  rw [Rows.uptoBulkAll] at hb
  rcases hd with ⟨-, rfl⟩ | ⟨sp, rfl⟩
  · exact ⟨Nat.zero_le _, fun t ht => by cases ht⟩
  · obtain ⟨h1, h2⟩ := bulk_toks (H := H) xs
    rw [Rows.uptoBulk] at hb
    exact ⟨by omega, fun t ht => by have := h2 t ht; omega⟩
end
end
end
section
open Go.RowKit Go.Proofs.YthklnopfgoekeaaDoorW.PrintWords Go.Proofs.YthklnopfgoekeaaDoorW.PrintLast Go.Proofs.YthklnopfgoekeaaDoorW.PrintMore
set_option linter.unusedVariables false
set_option linter.unusedSimpArgs false
/-- A row of one's own, appended to, stands as it did. -/
theorem run_append_keeps {P : Program} (w : World) (base : Nat) (t ty e : TypeId) (i : TypeInfo) (z : Value) (size bytes : Nat) (ht : P.underlying t = some (.slice e)) (hi : P.info? e = some i) (hz : i.zero = some z)
    (hsize : i.size = size) (hby : i.bytes = bytes) (hzs : z.cells.size = size) (hsz : 0 < size)
    (v : Value) (n : Nat) (xs : List Value) (hown : w.ownsRow base e size v n xs)
    (a : Addr) (m c : Nat) (news : List Value) (hl : news.length = m * size) (hnews : ∀ j u, news[j]? = some u → w.cell? (a.add j) = some u) (h1 : ∀ u ∈ news, u.oneCell' = true)
    (h63 : n + m ≤ maxLen) (hbytes : (n + m) * bytes ≤ 140737488355328) (hbase : base ≤ w.heap.size) :
    ∃ v' w', (Builtin.append_ #[t, t] ty #[v, .slice (some a) m c]).run P w = .ok v' w' ∧ w'.ownsRow base e size v' (n + m) (xs ++ news) ∧ w.grownBy w' v.ownBlock ∧ w'.ownsRow base e size v n xs := by
  obtain ⟨v', w', hr, h2, hg, _, _⟩ := run_append_own_at (P := P) w base t ty e i z size bytes ht hi hz hsize hby hzs hsz v n xs hown a m c news hl hnews h1 h63 hbytes hbase
  refine ⟨v', w', hr, h2, hg, ?_⟩
  subst hsize
  subst hby
  have hlx := hown.1
  rcases hown.2 with ⟨rfl, rfl⟩ | ⟨g, cap, cur, rfl, hbg, hgg, hnc, hcm, hcs, htake⟩
  · have hx : xs = [] := List.eq_nil_of_length_eq_zero (by simpa using hlx)
    subst hx
    exact World.ownsRow_nil _ _ _ _
  · by_cases hroom : n + m ≤ cap
    · have hfit : n * i.size + news.length ≤ cur.size := by rw [hl, hcs, ← Nat.add_mul]; exact Nat.mul_le_mul_right _ hroom
      have hr2 := run_append_room (P := P) w t ty e i ht hi g n cap cur hgg a m c news hl hnews h1 hroom hfit
      rw [hr] at hr2
      injection hr2 with hv _
      subst hv
      rcases h2.2 with ⟨h, _⟩ | ⟨g', cap', cur', hv', hb', hg', hnc', hcm', hcs', htake'⟩
      · cases h
      · injection hv' with ha _ hc'
        injection ha with ha
        injection ha with ha
        subst ha hc'
        refine ⟨hlx, .inr ⟨g, cap, cur', rfl, hbg, hg', hnc, hcm, hcs', ?_⟩⟩
        have h3 : (cur'.toList.take ((n + m) * i.size)).take (n * i.size) = (xs ++ news).take (n * i.size) := by rw [htake']
        rw [List.take_take, Nat.min_eq_left (Nat.mul_le_mul_right _ (Nat.le_add_right _ _)), ← hlx, List.take_left] at h3
        rw [← hlx]
        exact h3
    · have hsmall : n + m ≤ 9223372036854775807 := by simp only [maxLen] at h63; omega
      have holds : ∀ j u, xs[j]? = some u → w.cell? ((⟨g, 0, none⟩ : Addr).add j) = some u := hown.cells (g := g) rfl
      have hr2 := run_append_grow (P := P) w t ty e i z ht hi hz ⟨g, 0, none⟩ n cap xs hlx holds a m c news hl hnews (by omega) (by omega) (growslice_fits (by omega) hbytes)
      rw [hr] at hr2
      injection hr2 with _ hw
      subst hw
      refine ⟨hlx, .inr ⟨g, cap, cur, rfl, hbg, ?_, hnc, hcm, hcs, htake⟩⟩
      rw [heap_alloc_old w.drew _ (show g < w.drew.heap.size from blk_lt hgg)]
      exact hgg
section
variable {P : Program} {ops : Array Oper} {rest : List Oper} {o : Oper} {a : Act} {Q : Exit → Act → World → Prop}
theorem toks_append {w0 W : World} (base : Nat) (hgd : o.guard = none) (s x : Operand) (t : TypeId)
    (ho : o.op = .call { callee := .builtin .append, args := #[s, x], argTypes := #[t, t] })
    (ht : P.underlying t = some (.slice 38)) {z : Value} (hinfo : (P.info? 38).map (fun i => (i.zero, i.size, i.bytes)) = some (some z, 5, 48)) (hz : z.cells.size = 5)
    (v : Value) (xs ys : List S38) (A : Option Addr) (m c : Nat) (hs : a.eval s = v) (hx : a.eval x = .slice A m c)
    (HO : Kd.R k38 38 W base (fun _ => True) v xs) (HR : Kd.C k38 W A m ys)
    (HB : Below base w0 W) (hbase : base ≤ W.heap.size) (hl : xs.length + m ≤ 4194304)
    (h : ∀ v1 w1, Kd.R k38 38 w1 base (fun _ => True) v1 (xs ++ ys) → Kd.R k38 38 w1 base (fun _ => True) v xs → Below base w0 w1 → W.grownBy w1 v.ownBlock → wpList P ops Q rest (a.put o.dst v1) w1) :
    wpList P ops Q (o :: rest) a W := by
  obtain ⟨i0, hi, hzz⟩ := Option.map_eq_some_iff.1 hinfo
  simp only [Prod.mk.injEq] at hzz
  obtain ⟨hz0, hz1, hz2⟩ := hzz
  have hm : ys.length = m := HR.1
  obtain ⟨hok, inner, hown, hr⟩ := HO
  have hM : ∀ {w1 w2 : World} {ok1 ok2 : Nat → Prop} {y : S38} {c : List Value}, k38.M w1 base ok1 y c → k38.M w2 base ok2 y c := fun hy => by rw [k38_openM hy]; exact k38_mkM _ _ _ _
  have hrun : ∃ v1 w1, (Builtin.append_ #[t, t] o.type #[v, .slice A m c]).run P W = .ok v1 w1 ∧ Kd.R k38 38 w1 base (fun _ => True) v1 (xs ++ ys) ∧ Kd.R k38 38 w1 base (fun _ => True) v xs ∧ Below base w0 w1 ∧ W.grownBy w1 v.ownBlock := by
    rcases A with _ | ad
    · have h0 : m = 0 := by
        rcases Nat.eq_zero_or_pos m with h0 | h0
        · exact h0
        · obtain ⟨ad, h, _⟩ := HR.2.2 h0
          cases h
      subst h0
      obtain rfl : ys = [] := List.eq_nil_of_length_eq_zero hm
      refine ⟨v, W, ?_, by rw [List.append_nil]; exact ⟨hok, inner, hown, hr⟩, ⟨hok, inner, hown, hr⟩, HB, World.grownBy.refl W _⟩
      rcases hown.2 with ⟨rfl, hn⟩ | ⟨g, cap, cur, rfl, _, _, hnc, _⟩
      · simp [Builtin.append_, run_underlying ht, sizeOf, typeInfo, hi, Builtin.lenOf, Builtin.firstCells]
      · simp [Builtin.append_, run_underlying ht, sizeOf, typeInfo, hi, Builtin.lenOf, Builtin.firstCells, hnc, storeCells]
    · obtain ⟨news, hnr, hnc⟩ := inner_rows HR
      have hnM : Reps (k38.M W base (fun _ => True)) 5 ys news := hnr.imp_ (fun p c hp => by rw [k38_open hp]; exact k38_mkM _ _ _ _)
      have hone : ∀ u ∈ news, u.oneCell' = true := by
        intro u hu
        obtain ⟨q, hq, rfl⟩ := List.mem_iff_getElem.1 hu
        have hql : q / 5 < ys.length := by
          rw [Nat.div_lt_iff_lt_mul (by decide), ← hnM.1]
          exact hq
        have hc := hnM.2 (q / 5) _ (List.getElem?_eq_getElem hql)
        refine k38.K_one (k38.K_of_M hc) _ ?_
        rw [List.mem_iff_getElem?]
        refine ⟨q % 5, ?_⟩
        rw [List.getElem?_take, if_pos (Nat.mod_lt _ (by decide)), List.getElem?_drop, Nat.mul_comm, Nat.div_add_mod, List.getElem?_eq_getElem hq]
      obtain ⟨v1, w1, hrun, h2, hg, hk⟩ := run_append_keeps (P := P) W base t o.type 38 i0 z 5 48 ht hi hz0 hz1 hz2 hz (by decide) v xs.length inner hown ad m c news (by rw [hnM.1, hm]) hnc hone (by simp only [maxLen]; omega) (by omega) hbase
      refine ⟨v1, w1, hrun, ⟨fun _ _ => trivial, inner ++ news, by rw [List.length_append, hm]; exact h2, reps_append (hr.imp_ (fun _ _ hq => hM hq)) (hnM.imp_ (fun _ _ hq => hM hq))⟩, ⟨fun _ _ => trivial, inner, hk, hr.imp_ (fun _ _ hq => hM hq)⟩, HB.grown hg hbase (own_base hown), hg⟩
  obtain ⟨v1, w1, hr1, h1, h2, h3, h4⟩ := hrun
  refine wpList_plain hgd fun K hK => ?_
  unfold Oper.wp execOp
  simp only [ho, resolve, invoke, builtin, Sem.run_bind, Sem.run_pure, Result.andThen_ok, List.map_toArray, List.map_cons, List.map_nil, hs, hx, hr1]
  exact hK _ _ (h v1 w1 h1 h2 h3 h4)
end
theorem deep_k (x : Int) (h0 : 0 ≤ x) : ∃ k : Nat, x % 5000 = (k : Int) ∧ k < 5000 := ⟨(x % 5000).toNat, by omega, by omega⟩
theorem wrap_up (k : Nat) (h : k ≤ 4194304) : wrap64 ((k : Int) + 1) = (k : Int) + 1 := by unfold wrap64; omega
theorem deep_len (k j : Nat) (h : k < 5000) (hj : j ≤ k) : ((opsL j).length + 1) * 48 ≤ 140737488355328 ∧ ((opsL k ++ (xT k :: clsL j)).length + 1) * 48 ≤ 140737488355328 := by
  rw [List.length_append, List.length_cons, opsL_length, opsL_length, clsL_length]
  omega
theorem parse_f {l : List S38} {x : List S57 × List Int × Int × Int × Int} (h : parseR l = x) (hn : l.length ≤ 1099511627776) (ht : ∀ t ∈ l, t.f1.size ≤ 1099511627776) : sexp_Parse.f l = some x ∧ tribunalref07_Parse.f l = some x := by
  unfold sexp_Parse.f tribunalref07_Parse.f
  have hc : l.length ≤ 1099511627776 ∧ l.all (fun t => decide (t.f1.size ≤ 1099511627776)) = true := ⟨hn, List.all_eq_true.2 fun t h => decide_eq_true (ht t h)⟩
  simp only [if_pos hc, h]
  exact ⟨trivial, trivial⟩
/-- What the walk asks of the row of parentheses. -/
structure DF (k : Nat) (dl b : List S38) (n : List S57) (r : List Int) (i j e : Int) : Prop where
  p1 : 4096 < k → sexp_Parse.f dl = some ([], [], 1, 4097, 72)
  p2 : ¬ 4096 < k → ∃ N : List S57, N.length = k + 1 ∧ sexp_Parse.f dl = some (N, [(k : Int)], 0, 0, 0) ∧ ∃ K, sexp_Depth.f K N (k : Int) = some ((k : Int), 0)
  p3 : sexp_Parse.f (dl ++ b) = some (n, r, i, j, e)
  p4 : tribunalref07_Parse.f (dl ++ b) = some (n, r, i, j, e)
  small : dl.length + b.length ≤ 4194304
theorem deep_facts (k : Nat) (hk : k < 5000) (b : List S38) (hb : b.length ≤ 1048576) (tb : ∀ t ∈ b, t.f1.size ≤ 1048576) : ∃ n r i j e, DF k (deepL k) b n r i j e := by
  obtain ⟨⟨n, r, i, j, e⟩, hp⟩ : ∃ x, parseR (deepL k ++ b) = x := ⟨_, rfl⟩
  have hl := deepL_length k
  have hn : (deepL k ++ b).length ≤ 1099511627776 := by rw [List.length_append]; omega
  have ht : ∀ t ∈ deepL k ++ b, t.f1.size ≤ 1099511627776 := fun t h => by
    rcases List.mem_append.1 h with h | h
    · have := deep_texts k t h; omega
    · have := tb t h; omega
  have h0 : ∀ t ∈ deepL k, t.f1.size ≤ 1099511627776 := fun t h => by have := deep_texts k t h; omega
  refine ⟨n, r, i, j, e, ⟨fun hgt => (parse_f (deep_refused k hgt) (by omega) h0).1, fun hle => ?_, (parse_f hp hn ht).1, (parse_f hp hn ht).2, by omega⟩⟩
  exact ⟨deepN k k, deepN_length k k, (parse_f (deep_read k (by omega)) (by omega) h0).1, deep_depth k (by omega)⟩
set_option maxHeartbeats 2000000 in
set_option maxRecDepth 100000 in
theorem deep_walk (x : Int) (h0 : 0 ≤ x) (hx : x < 65536) (A1 : Option Addr) (c1 : Nat) (b : List S38) (w : World) (h1 : Kd.C k38 w A1 b.length b) (hc1 : b.length ≤ c1) (hb : b.length ≤ 1048576) (tb : ∀ t ∈ b, t.f1.size ≤ 1048576) :
    Calls Tryd.prog 14 #[.int .u16 x, .slice A1 b.length c1] w fun e w' => e = .returned (.bool true) ∧ Below w.heap.size w w' := by
  obtain ⟨k, hk, hk5⟩ := deep_k x h0
  obtain ⟨n, r, i2, j2, e2, hD⟩ := deep_facts k hk5 b hb tb
  have HD := Aside0.mk hD
  have HK5 := Aside0.mk hk5
  have H1 := Aside0.mk h1
  clear hD hb tb hc1 h1
  go_enter Tryd.func14, Tryd.ntmps14
  go_wp2
  rw [hk]
  clear hk h0 hx
  go_loopw [6, 7] (fun v i wr => ∃ (j : Nat), j ≤ k ∧ i = .int .i64 j ∧ Aside0 (Kd.R k38 38 wr w.heap.size (fun _ => True) v (opsL j)) ∧ Aside0 (Below w.heap.size w wr)) (fun _ i _ => k - (intOf i).toNat)
  case atStart => exact ⟨0, Nat.zero_le _, rfl, ⟨Kd.R_nil _ _ _ _ _⟩, ⟨Below.refl _ _⟩⟩
  case round =>
    obtain ⟨j, hj, rfl, HR, HB⟩ := hrel
    by_cases hlt : j < k
    · have HL := Aside0.mk (deep_len k j HK5.out hj).1
      have HW := Aside0.mk (wrap_up j (by omega))
      have hwj := HW.out
      clear hk5
      go_wp2_with (at_builtin; refine Kd.R_append k38 (w0 := w) (W := wr) w.heap.size rfl (.tmp 34) (.tmp 38) 22 38 _ 48 rfl Tryd.underlying22 info38 rfl (by decide) (by decide) _ (opsL j) (opT j) [.int .i64 1, .string ⟨#[40]⟩, .bool false, .int .i64 1, .int .i64 ((j : Int) + 1)] (fun _ => True) (fun _ => False) rfl (by simp [Act.eval]) (k38_mkM _ _ _ _) (fun _ h => h.elim) (fun _ _ => trivial) HR.out HB.out HB.out.size HL.out ?_; intro v1 w3 hR3 hb3 hg3 hat3; have HR3 := Aside0.mk hR3; have HB3 := Aside0.mk hb3; clear hR3 hb3 hg3 hat3)
      clear hwj
      go_roundw
      case rel => exact ⟨j + 1, hlt, by first | rfl | exact congrArg (Value.int IntKind.i64) HW.out, ⟨by rw [opsL_next]; exact HR3.out⟩, HB3⟩
      case measure => rw [HW.out]; simp [intOf]; omega
    · obtain rfl : j = k := by omega
      have HL := Aside0.mk (deep_len j j HK5.out (Nat.le_refl _)).1
      have HW := Aside0.mk (wrap_up j (by omega))
      have hwj := HW.out
      clear hk5 hlt hj
      go_upto_region 8 with (at_builtin; refine Kd.R_append k38 (w0 := w) (W := wr) w.heap.size rfl (.tmp 40) (.tmp 44) 22 38 _ 48 rfl Tryd.underlying22 info38 rfl (by decide) (by decide) _ (opsL j) (xT j) [.int .i64 8, .string ⟨#[120]⟩, .bool false, .int .i64 1, .int .i64 ((j : Int) + 1)] (fun _ => True) (fun _ => False) rfl (by simp [Act.eval]) (k38_mkM _ _ _ _) (fun _ h => h.elim) (fun _ _ => trivial) HR.out HB.out HB.out.size HL.out ?_; intro v1 w3 hR3 hb3 hg3 hat3; have HR3 := Aside0.mk hR3; have HB3 := Aside0.mk hb3; clear hR3 hb3 hg3 hat3)
      clear hwj HR HB HW HL
      go_wp2
      go_loopw [6, 8] (fun v i wr => ∃ (q : Nat), q ≤ j ∧ i = .int .i64 q ∧ Aside0 (Kd.R k38 38 wr w.heap.size (fun _ => True) v (opsL j ++ (xT j :: clsL q))) ∧ Aside0 (Below w.heap.size w wr)) (fun _ i _ => j - (intOf i).toNat)
      case atStart => exact ⟨0, Nat.zero_le _, rfl, HR3, HB3⟩
      case round =>
        clear HR3 HB3
        obtain ⟨q, hq, rfl, HR, HB⟩ := hrel
        by_cases hlt : q < j
        · have HL := Aside0.mk (deep_len j q HK5.out hq).2
          have HW := Aside0.mk (wrap_up q (by have := HK5.out; omega))
          have hwj := HW.out
          go_wp2_with (at_builtin; refine Kd.R_append k38 (w0 := w) (W := wr) w.heap.size rfl (.tmp 51) (.tmp 55) 22 38 _ 48 rfl Tryd.underlying22 info38 rfl (by decide) (by decide) _ (opsL j ++ (xT j :: clsL q)) (clT q) [.int .i64 2, .string ⟨#[41]⟩, .bool false, .int .i64 2, .int .i64 ((q : Int) + 1)] (fun _ => True) (fun _ => False) rfl (by simp [Act.eval]) (k38_mkM _ _ _ _) (fun _ h => h.elim) (fun _ _ => trivial) HR.out HB.out HB.out.size HL.out ?_; intro v1 w3 hR3 hb3 hg3 hat3; have HR3 := Aside0.mk hR3; have HB3 := Aside0.mk hb3; clear hR3 hb3 hg3 hat3)
          clear hwj
          go_roundw
          case rel => exact ⟨q + 1, hlt, by first | rfl | exact congrArg (Value.int IntKind.i64) HW.out, ⟨by
            have e : opsL j ++ (xT j :: clsL (q + 1)) = (opsL j ++ (xT j :: clsL q)) ++ [clT q] := by rw [clsL_next, List.append_assoc, List.cons_append]
            rw [e]
            exact HR3.out⟩, HB3⟩
          case measure => rw [HW.out]; simp [intOf]; omega
        · obtain rfl : q = j := by omega
          clear hlt hq
          have hR := HR.out
          rw [show opsL q ++ (xT q :: clsL q) = deepL q from rfl] at hR
          obtain ⟨dl, hdl⟩ : ∃ dl, dl = deepL q := ⟨_, rfl⟩
          rw [← hdl] at hR HD
          obtain ⟨A, c, rfl, hc, hC⟩ := Kd.R_reads hR
          have HR := Aside0.mk hR
          have HC := Aside0.mk hC
          have Hc := Aside0.mk hc
          clear hdl hR hc hC
          by_cases h4 : 4096 < q
          · have P1 := Aside0.mk (HD.out.p1 h4)
            go_upto_region 12 with fail
            go_wp2_with fail
            refine (sexp_Parse.calls A c dl [] [] 1 4097 72 wr HC.out Hc.out P1.out).mono ?_
            rintro e_ w3 ⟨v0, v1, rfl, hS, hR, hb⟩
            obtain ⟨AL, cL, rfl, hcL, hCL⟩ := Kd.S_reads hS
            obtain ⟨AR, cR, rfl, hcR, hCR⟩ := Kd.R_reads hR
            have HB3 := Aside0.mk (below_then HB.out HB.out.size hb)
            clear hS hR hb hcL hCL hcR hCR
            go_wp2_with fail
            refine (tribunallaw07_alive.calls 42 true _ alive_told).mono ?_
            rintro e_ w4 ⟨rfl, hb⟩
            go_wp2
            go_ret
            exact ⟨rfl, below_then HB3.out HB3.out.size hb⟩
          · obtain ⟨N, hN, hP2, K, hK⟩ := HD.out.p2 h4
            have P2 := Aside0.mk hP2
            have HKd := Aside0.mk hK
            have HWQ : Aside0 (wrap64 ((q : Int) + 1) = (q : Int) + 1 ∧ (((N.length : Nat) : Int) != (q : Int) + 1) = false) := ⟨wrap_up q (by omega), bne_eq_false_iff_eq.2 (by rw [hN]; omega)⟩
            obtain ⟨db, hdb⟩ : ∃ db, db = dl ++ b := ⟨_, rfl⟩
            have P3 := HD.out.p3
            have P4 := HD.out.p4
            have HSm := Aside0.mk HD.out.small
            rw [← hdb] at P3 P4
            have P3 := Aside0.mk P3
            have P4 := Aside0.mk P4
            have Hdb := Aside0.mk hdb
            clear hP2 hK hN hdb HD
            go_upto_region 12 with fail
            go_wp2_with fail
            refine (sexp_Parse.calls A c dl N [(q : Int)] 0 0 0 wr HC.out Hc.out P2.out).mono ?_
            rintro e_ w3 ⟨v0, v1, rfl, hS, hR, hb⟩
            obtain ⟨AL, cL, rfl, hcL, hCL⟩ := Kd.S_reads hS
            obtain ⟨AR, cR, rfl, hcR, hCR⟩ := Kd.R_reads hR
            have HB3 := Aside0.mk (below_then HB.out HB.out.size hb)
            have HR3 := Aside0.mk (Kd.R_below HR.out hb)
            have CL := Aside0.mk hCL
            have HcL := Aside0.mk hcL
            obtain ⟨a0, rfl, e0⟩ := Kd.at_int hCR 0 (by omega) (by simp)
            replace e0 : w3.cell? (a0.add 0) = some (.int .i64 (q : Int)) := e0
            have e1 : w3.cell? a0 = some (.int .i64 (q : Int)) := by simpa [Addr.add] using e0
            clear hS hR hb hcL hCL hcR hCR HR HC Hc
            obtain ⟨hwq, hne⟩ := HWQ.out
            go_upto_region 17 with fail
            clear hwq hne
            go_wp2_with fail
            refine (sexp_Depth.calls K AL cL N (q : Int) (q : Int) 0 w3 CL.out HcL.out HKd.out).mono ?_
            rintro e_ w4 ⟨rfl, hb⟩
            have HB4 := Aside0.mk (below_then HB3.out HB3.out.size hb)
            have HR4 := Aside0.mk (Kd.R_below HR3.out hb)
            clear hb e0 e1 HR3
            go_wp2_with (at_builtin; refine toks_append (w0 := w) (W := w4) w.heap.size rfl (.tmp 113) (.tmp 114) 22 rfl Tryd.underlying22 info38 rfl (.slice A dl.length c) dl b A1 b.length c1 (by simp [Act.eval]) (by simp [Act.eval]) HR4.out (Kd.C_below H1.out HB4.out) HB4.out HB4.out.size HSm.out ?_; intro v5 w5 hR5 hK5 hb5 hg5; rw [← Hdb.out] at hR5; obtain ⟨A5, c5, hv5, hc5, hC5⟩ := Kd.R_reads hR5; subst hv5; have HC5 := Aside0.mk hC5; have Hc5 := Aside0.mk hc5; have HK5 := Aside0.mk hK5; have HB5 := Aside0.mk hb5; clear hR5 hK5 hb5 hC5 hc5 hg5)
            refine (sexp_Parse.calls A5 c5 db n r i2 j2 e2 w5 HC5.out Hc5.out P3.out).mono ?_
            rintro e_ w6 ⟨v0, v1, rfl, hS, hR, hb⟩
            obtain ⟨AN, cN, rfl, hcN, hCN⟩ := Kd.S_reads hS
            obtain ⟨AQ, cQ, rfl, hcQ, hCQ⟩ := Kd.R_reads hR
            have HB6 := Aside0.mk (below_then HB5.out HB5.out.size hb)
            have HR6 := Aside0.mk (Kd.R_below HK5.out hb)
            have HS6 := Aside0.mk (Kd.S_bound hS)
            have HLt := Aside0.mk (Kd.R_lt HK5.out)
            have HcN := Aside0.mk hcN
            clear hS hR hb hcN hCN hcQ hCQ HK5 HR4 HC5 Hc5
            go_wp2_with (at_builtin; refine toks_append (w0 := w) (W := w6) w.heap.size rfl (.tmp 123) (.tmp 124) 22 rfl Tryd.underlying22 info38 rfl (.slice A dl.length c) dl b A1 b.length c1 (by simp [Act.eval]) (by simp [Act.eval]) HR6.out (Kd.C_below H1.out HB6.out) HB6.out HB6.out.size HSm.out ?_; intro v7 w7 hR7 hK7 hb7 hg7; have HG7 := Aside0.mk hg7; rw [← Hdb.out] at hR7; obtain ⟨A7, c7, hv7, hc7, hC7⟩ := Kd.R_reads hR7; subst hv7; have HC7 := Aside0.mk hC7; have Hc7 := Aside0.mk hc7; have HB7 := Aside0.mk hb7; clear hR7 hK7 hb7 hC7 hc7 hg7)
            refine (tribunalref07_Parse.calls A7 c7 db n r i2 j2 e2 w7 HC7.out Hc7.out P4.out).mono ?_
            rintro e_ w8 ⟨v0, v1, rfl, hS, hR, hb⟩
            obtain ⟨AO, cO, rfl, hcO, hCO⟩ := Kd.S_reads hS
            obtain ⟨AU, cU, rfl, hcU, hCU⟩ := Kd.R_reads hR
            have HB8 := Aside0.mk (below_then HB7.out HB7.out.size hb)
            have CN8 := Aside0.mk (Kd.C_below (Kd.S_reads' (Kd.S_step HS6.out (fun k hk hlt => HG7.out.block k hlt (fun e => by have := HLt.out k e.symm; have := hk.2.1; omega)))).2.2 hb)
            have CO := Aside0.mk hCO
            have HcO := Aside0.mk hcO
            clear hS hR hb hcO hCO hcU hCU HC7 Hc7
            go_wp2_with fail
            refine (tribunalref07_Same.calls AN cN n AO cO n true w8 CN8.out HcN.out CO.out HcO.out (by unfold tribunalref07_Same.f; rw [if_pos (sameL_self _)])).mono ?_
            rintro e_ w9 ⟨rfl, hb⟩
            have HB9 := Aside0.mk (below_then HB8.out HB8.out.size hb)
            clear hb
            go_wp2_with fail
            refine (tribunallaw07_alive.calls 42 true _ alive_told).mono ?_
            rintro e_ w10 ⟨rfl, hb⟩
            go_wp2
            go_ret
            exact ⟨rfl, below_then HB9.out HB9.out.size hb⟩
end
end Go.Proofs.YthklnopfgoekeaaDoor.X
