import Derived.Test.YthklnopfgoekeaaDoorHStep
import Derived.Deep.RegionLaw
import Derived.BigRegion
namespace Go.Proofs.YthklnopfgoekeaaDoor.X
open Go.RowKit Go.Proofs.YthklnopfgoekeaaDoorW.PrintWords Go.Proofs.YthklnopfgoekeaaDoorW.PrintLast Go.Proofs.YthklnopfgoekeaaDoorW.PrintMore
set_option linter.unusedVariables false

theorem slice_form {B : Nat} {v : Value} {ts : List S38} {w : World} {ok : Nat → Prop} (h : Kd.R k38 38 w B ok v ts) : ∃ A m c, v = .slice A m c := by
  obtain ⟨A, c, e⟩ := Kd.R_slice h
  exact ⟨A, _, c, e⟩
theorem below_drew_any {B : Nat} {w W : World} (h : Below B w W) : Below B w W.drew := ⟨h.os, h.tape, h.output, h.size, h.block⟩
theorem put_keeps {B g : Nat} {s : ByteArray} {x l c : Int} {v : Value} {ts : List S38} {w w1 : World} {o : Obj} (h : Cells g s x l c v w) (hr : Kd.R k38 38 w B (fun k => B ≤ k) v ts) (hg : g < B) (hgr : World.grownBy (w.alloc o).drew.drew w1 v.ownBlock) : Cells g s x l c v w1 := by
  refine ⟨blk_grown (blk_drew (blk_drew (blk_alloc h.b o))) hgr ?_⟩
  intro he
  have := hr.1 g he.symm
  omega
set_option maxHeartbeats 4000000 in
theorem put_calls (B g : Nat) (s : ByteArray) (x l c : Int) (v : Value) (ts : List S38) (k0 : Int) (tx : ByteArray) (q0 : Bool) (l0 c0 : Int) (n : Nat) (w : World) (hg : g < B) (hB : B ≤ w.heap.size) (h : Cells g s x l c v w) (hr : Kd.R k38 38 w B (fun k => B ≤ k) v ts) (hts : ts.length ≤ 1048576) (hb : Nb s x l c) (hn : x + n ≤ s.size) :
    Calls Tryd.prog 68 #[.pointer (some ⟨g, 0, none⟩), .agg #[.int .i64 k0, .string tx, .bool q0, .int .i64 l0, .int .i64 c0], .int .i64 n] w fun e w' => e = .returned (.int .i64 0) ∧ Fr B g w w' ∧ Sc B g s (x + n) (lc s x l c n).1 (lc s x l c n).2 (ts ++ [⟨k0, tx, q0, l, c⟩]) w' := by
  have H := Aside0.mk h
  have HB := Aside0.mk hb
  have HR := Aside0.mk hr
  have hgw := h.lt
  have hc2 := h.c2
  have hc3 := h.c3
  have hc4 := h.c4
  clear h hb hr
  go_enter Tryd.func68, Tryd.ntmps68
  go_wp2
  go_region
  go_wp2
  skip
  go_region_law (refine Kd.R_append_step (W := (w.alloc (.cells #[.int .i64 k0, .string tx, .bool q0, .int .i64 l, .int .i64 c] 38)).drew.drew) k38 B (by rfl) (.tmp 21) (.tmp 23) 22 38 _ 48 (by rfl) Tryd.underlying22 info38 (by rfl) (by decide) (by decide) v ts ⟨k0, tx, q0, l, c⟩ [.int .i64 k0, .string tx, .bool q0, .int .i64 l, .int .i64 c] (fun k => B ≤ k) (fun _ => False) (by rfl) (by simp [Act.eval]) (k38_mkM _ _ _ _) (fun _ h => h.elim) (fun k hk => Nat.le_trans (by simp; omega) hk) (Kd.R_drew (Kd.R_drew (Kd.R_alloc HR.out _))) (Below.refl _ _) (by simp; omega) (by omega) ?_; intro v1 w1 hR1 hb1 hg1 hat1; obtain ⟨A1, m1, n1, rfl⟩ := slice_form hR1; have HR1 := Aside0.mk hR1; have HB1 := Aside0.mk hb1; have HG1 := Aside0.mk hg1; have HC1 := Aside0.mk (put_keeps H.out HR.out hg hg1); have hd4 := HC1.out.c4; have hf4 := HC1.out.fz 4; clear hR1 hb1 hg1 hat1)
  all_goals
    have HC2 := Aside0.mk (HC1.out.set4 (.slice A1 m1 n1))
    go_wp2_with fail
    refine (step_calls g s x l c _ n _ HC2.out HB.out hn).mono ?_
    rintro e w2 ⟨rfl, hC3, hO3⟩
    have HC3 := Aside0.mk hC3
    have HO3 := Aside0.mk hO3
    clear hC3 hO3
    go_wp2
    go_ret
    have hsz : B ≤ w1.heap.size := Nat.le_trans hB (Nat.le_trans (by simp) HB1.out.size)
    have hfr : Fr B g w w1 := Fr.of_below ((below_drew_any (below_drew_any ((Below.refl B w).alloc hB _))).trans HB1.out)
    have hfr2 := (hfr.set_ 4 (.slice A1 m1 n1))
    refine ⟨rfl, hfr2.trans (HO3.out.fr (by simpa [World.setCell] using hsz)), ⟨hg, Nat.le_trans (by simpa [World.setCell] using hsz) HO3.out.size, _, HC3.out, HO3.out.row hg (Kd.R_far HR1.out (fun k hk => by show k ≠ g; omega) _)⟩⟩
end Go.Proofs.YthklnopfgoekeaaDoor.X
