import Derived.Test.YthklnopfgoekeaaDoorHBare
import Derived.StillTailTactics
namespace Go.Proofs.YthklnopfgoekeaaDoor.X
open Go.RowKit Go.Proofs.YthklnopfgoekeaaDoorW.PrintWords Go.Proofs.YthklnopfgoekeaaDoorW.PrintLast Go.Proofs.YthklnopfgoekeaaDoorW.PrintMore
set_option linter.unusedVariables false

theorem slice_str (s : ByteArray) (i j : Int) (a b : Nat) (hi : i = a) (hj : j = b) (h : a ≤ b) (hb : b ≤ s.size) : ∀ w : World, (Instr.slice 9 (.string s) (some (.int .i64 i)) (some (.int .i64 j)) none).run Tryd.prog w = .ok (.string (s.extract a b)) w := by
  intro w
  subst hi hj
  have h1 : (a : Int) ≤ b := by omega
  have h2 : (b : Int) ≤ s.size := by omega
  have h3 : 0 ≤ (a : Int) := by omega
  have h4 : 0 ≤ (b : Int) := by omega
  have hu := Tryd.underlying9
  simp [go_sem, h, hb]
theorem wrap_in (a : Int) (h0 : -9223372036854775808 ≤ a) (h1 : a ≤ 9223372036854775807) : IntKind.i64.wrap a = a := by
  rw [IntKind.wrap_i64]
  omega
theorem After.from {B g : Nat} {s : ByteArray} {x : Nat} {l c : Int} {ts : List S38} {r : Rd} {w w1 w' : World} (h : After B g s x l c ts r w1 w') (hf : Fr B g w w1) : After B g s x l c ts r w w' := ⟨hf.trans h.fr, h.sc⟩
/-- A reader: on every scanner, before a byte of its class. -/
def ReadsAs (F : Nat) (f : ByteArray → Nat → Rd) (cls : Int) : Prop := ∀ (B g : Nat) (s : ByteArray) (x : Nat) (l c : Int) (ts : List S38) (w : World), Sc B g s x l c ts w → ts.length ≤ x → Nb s x l c → x < s.size → classI (bt s x) = cls →
  Calls Tryd.prog F #[.pointer (some ⟨g, 0, none⟩)] w fun e w' => e = .returned (.int .i64 (f s x).err) ∧ After B g s x l c ts (f s x) w w'
def wordsR (s : ByteArray) (x : Nat) : Rd := bareR s x 8 (s.extract x (x + runN simpleB s x)) false (runN simpleB s x) true
theorem Sc.below {B g : Nat} {s : ByteArray} {x l c : Int} {ts : List S38} {w W : World} (h : Sc B g s x l c ts w) (hW : Below w.heap.size w W) : Sc B g s x l c ts W := by
  obtain ⟨h1, h2, v, h3, h4⟩ := h
  exact ⟨h1, Nat.le_trans h2 hW.size, v, h3.below hW, Kd.R_below h4 hW⟩
theorem put_on (B g : Nat) (s : ByteArray) (x : Nat) (l c : Int) (ts : List S38) (k0 : Int) (tx : ByteArray) (q0 : Bool) (n : Nat) (w W : World) (h : Sc B g s x l c ts w) (hts : ts.length ≤ x) (hb : Nb s x l c) (hn : x + n ≤ s.size) (N : Int) (hN : N = n) (hW : Below w.heap.size w W) :
    Calls Tryd.prog 68 #[.pointer (some ⟨g, 0, none⟩), .agg #[.int .i64 k0, .string tx, .bool q0, .int .i64 0, .int .i64 0], .int .i64 N] W fun e w' => e = .returned (.int .i64 0) ∧ After B g s x l c ts ⟨0, some (k0, tx, q0), n⟩ w w' := by
  subst hN
  obtain ⟨h1, h2, v, h3, h4⟩ := h.below hW
  refine (put_calls B g s x l c v ts k0 tx q0 0 0 n W h1 h2 h3 h4 (by have := hb.xs; have := hb.size; omega) hb (by omega)).mono ?_
  rintro e w' ⟨rfl, hF, hS⟩
  rw [← Int.natCast_add] at hS
  exact ⟨rfl, (Fr.of_below (hW.mono h.le)).trans hF, hS⟩
theorem bare_on (B g : Nat) (s : ByteArray) (x : Nat) (l c : Int) (ts : List S38) (k0 : Int) (tx : ByteArray) (q0 : Bool) (n : Nat) (ok : Bool) (w W : World) (h : Sc B g s x l c ts w) (hts : ts.length ≤ x) (hb : Nb s x l c) (hn : x + n ≤ s.size) (N : Int) (hN : N = n) (hW : Below w.heap.size w W) :
    Calls Tryd.prog 69 #[.pointer (some ⟨g, 0, none⟩), .agg #[.int .i64 k0, .string tx, .bool q0, .int .i64 0, .int .i64 0], .int .i64 N, .bool ok] W fun e w' => e = .returned (.int .i64 (bareR s x k0 tx q0 n ok).err) ∧ After B g s x l c ts (bareR s x k0 tx q0 n ok) w w' := by
  subst hN
  refine (bare_calls B g s x l c ts k0 tx q0 n ok W (h.below hW) hts hb hn).mono ?_
  rintro e w' ⟨rfl, hA⟩
  exact ⟨rfl, hA.from (Fr.of_below (hW.mono h.le))⟩
theorem step_on (B g : Nat) (s : ByteArray) (x : Nat) (l c : Int) (ts : List S38) (n : Nat) (w W : World) (h : Sc B g s x l c ts w) (hb : Nb s x l c) (hn : x + n ≤ s.size) (N : Int) (hN : N = n) (hW : Below w.heap.size w W) :
    Calls Tryd.prog 65 #[.pointer (some ⟨g, 0, none⟩), .int .i64 N] W fun e w' => e = .returned (.tuple #[]) ∧ After B g s x l c ts ⟨0, none, n⟩ w w' := by
  subst hN
  obtain ⟨h1, h2, v, h3, h4⟩ := h.below hW
  refine (step_calls g s x l c v n W h3 hb (by omega)).mono ?_
  rintro e w' ⟨rfl, hC, hO⟩
  rw [← Int.natCast_add] at hC
  exact ⟨rfl, (Fr.of_below (hW.mono h.le)).trans (hO.fr h2), ⟨h1, Nat.le_trans h2 hO.size, v, hC, hO.row h1 h4⟩⟩
set_option maxHeartbeats 2000000 in
set_option maxRecDepth 100000 in
theorem words_reads : ReadsAs 54 wordsR 9 := by
  intro B g s x l c ts w h hts hb hx hcls
  have H := Aside0.mk h
  have HB := Aside0.mk hb
  have hs := hb.size
  obtain ⟨h1, h2, v, hC, hR⟩ := h
  have hgl := hC.lt
  have hc1 := hC.c1
  have HC := Aside0.mk hC
  have HR := Aside0.mk hR
  clear hC hR hb hcls
  go_enter Tryd.func54, Tryd.ntmps54
  go_wp2_with fail
  refine (run_simple g s x (by omega) hs w HC.out.c0).mono ?_
  rintro e w1 ⟨rfl, hb1⟩
  have hle := runN_le simpleB s x (by omega)
  obtain ⟨n, hn⟩ : ∃ n, n = runN simpleB s x := ⟨_, rfl⟩
  rw [← hn] at hle ⊢
  have HN := Aside0.mk hn
  have HC1 := Aside0.mk (HC.out.below hb1)
  have HB1 := Aside0.mk hb1
  have hd0 := HC1.out.c0
  have hd1 := HC1.out.c1
  clear hn hb1
  go_wp2
  have hwr := wrap_in ((x : Int) + n) (by omega) (by omega)
  have hsl := slice_str s x (x + n) x (x + n) rfl (by omega) (by omega) (by omega)
  go_still_tail 18, (by kernel_rfl)
  change wpList _ _ _ _ _ w1.drew
  clear hwr hsl
  go_wp2_with fail
  have hS1 : Sc B g s x l c ts w1.drew := ⟨h1, Nat.le_trans h2 HB1.out.size, v, HC1.out.drew, Kd.R_drew (Kd.R_below HR.out HB1.out)⟩
  refine (bare_calls B g s x l c ts 8 (s.extract x (x + n)) false n true w1.drew hS1 hts HB.out hle).mono ?_
  rintro e w2 ⟨rfl, hA⟩
  have HA := Aside0.mk hA
  clear hA
  go_wp2
  go_ret
  have e : wordsR s x = bareR s x 8 (s.extract x (x + n)) false n true := by unfold wordsR; rw [HN.out]
  rw [e]
  exact ⟨rfl, HA.out.from (Fr.of_below ((below_drew HB1.out).mono h2))⟩

def blanksR (s : ByteArray) (x : Nat) : Rd := ⟨0, none, 1⟩
set_option maxHeartbeats 2000000 in
set_option maxRecDepth 100000 in
theorem blanks_reads : ReadsAs 46 blanksR 1 := by
  intro B g s x l c ts w h hts hb hx hcls
  have HB := Aside0.mk hb
  obtain ⟨h1, h2, v, hC, hR⟩ := h
  have HC := Aside0.mk hC
  have HR := Aside0.mk hR
  clear hC hR hb hcls
  go_enter Tryd.func46, Tryd.ntmps46
  go_wp2_with fail
  have hcall := step_calls g s x l c v 1 w HC.out HB.out (by omega)
  refine hcall.mono ?_
  clear hcall
  rintro e w1 ⟨rfl, hC1, hO1⟩
  have HC1 := Aside0.mk hC1
  have HO1 := Aside0.mk hO1
  clear hC1 hO1
  go_wp2
  go_ret
  exact ⟨rfl, ⟨HO1.out.fr h2, ⟨h1, Nat.le_trans h2 HO1.out.size, v, HC1.out, HO1.out.row h1 HR.out⟩⟩⟩
def commentsR (s : ByteArray) (x : Nat) : Rd := ⟨0, none, runN notNlB s x⟩
set_option maxHeartbeats 2000000 in
set_option maxRecDepth 100000 in
theorem comments_reads : ReadsAs 47 commentsR 2 := by
  intro B g s x l c ts w h hts hb hx hcls
  have HB := Aside0.mk hb
  have hs := hb.size
  obtain ⟨h1, h2, v, hC, hR⟩ := h
  have hc1 := hC.c1
  have HC := Aside0.mk hC
  have HR := Aside0.mk hR
  clear hC hR hb hcls
  go_enter Tryd.func47, Tryd.ntmps47
  go_wp2_with fail
  refine (run_notNl g s x (by omega) hs w HC.out.c0).mono ?_
  rintro e w1 ⟨rfl, hb1⟩
  have hle := runN_le notNlB s x (by omega)
  obtain ⟨n, hn⟩ : ∃ n, n = runN notNlB s x := ⟨_, rfl⟩
  have HE : Aside0 (commentsR s x = ⟨0, none, n⟩) := ⟨by unfold commentsR; rw [hn]⟩
  rw [← hn] at hle ⊢
  have HC1 := Aside0.mk (HC.out.below hb1)
  have HB1 := Aside0.mk hb1
  clear hn hb1
  go_wp2_with fail
  refine (step_calls g s x l c v n w1 HC1.out HB.out (by omega)).mono ?_
  rintro e w2 ⟨rfl, hC2, hO2⟩
  have HC2 := Aside0.mk hC2
  have HO2 := Aside0.mk hO2
  clear hC2 hO2
  go_wp2
  go_ret
  rw [HE.out]
  refine ⟨rfl, ⟨(Fr.of_below (HB1.out.mono h2)).trans (HO2.out.fr (Nat.le_trans h2 HB1.out.size)), ⟨h1, Nat.le_trans (Nat.le_trans h2 HB1.out.size) HO2.out.size, v, ?_, HO2.out.row h1 (Kd.R_below HR.out HB1.out)⟩⟩⟩
  have := HC2.out
  rw [← Int.natCast_add] at this
  exact this
def bracketsR (s : ByteArray) (x : Nat) : Rd := if bt s x = 41 then ⟨0, some (2, ⟨#[41]⟩, false), 1⟩ else ⟨0, some (1, ⟨#[40]⟩, false), 1⟩
set_option maxHeartbeats 2000000 in
set_option maxRecDepth 100000 in
theorem brackets_reads : ReadsAs 48 bracketsR 3 := by
  intro B g s x l c ts w h hts hb hx hcls
  have H := Aside0.mk h
  have HB := Aside0.mk hb
  have hs := hb.size
  obtain ⟨h1, h2, v, hC, hR⟩ := h
  have hgl := hC.lt
  have hc0 := hC.c0
  have hc1 := hC.c1
  have HC := Aside0.mk hC
  have HR := Aside0.mk hR
  have hbt := bt_nat s x hx
  clear hC hR hb hcls
  by_cases h41 : (bt s x == 41) = true
  · have HE : Aside0 (bracketsR s x = ⟨0, some (2, ⟨#[41]⟩, false), 1⟩) := ⟨by unfold bracketsR; rw [if_pos (by simpa using h41)]⟩
    go_enter Tryd.func48, Tryd.ntmps48
    go_wp2
    go_quiet (fail)
    go_wp2_with fail
    refine (put_on B g s x l c ts 2 ⟨#[41]⟩ false 1 w _ H.out hts HB.out (by omega) 1 rfl (by repeat (first | (refine Below.setCell ?_ (by simp) _) | exact pw_below_drewN ((Below.refl _ _).alloc (Nat.le_refl _) _) _))).mono ?_
    rintro e w1 ⟨rfl, hA⟩
    have HA := Aside0.mk hA
    clear hA
    go_wp2
    go_ret
    rw [HE.out]
    exact ⟨rfl, HA.out⟩
  · replace h41 := Bool.eq_false_iff.mpr h41
    have HE : Aside0 (bracketsR s x = ⟨0, some (1, ⟨#[40]⟩, false), 1⟩) := ⟨by unfold bracketsR; rw [if_neg (by simpa using h41)]⟩
    go_enter Tryd.func48, Tryd.ntmps48
    go_wp2
    go_quiet (fail)
    go_wp2_with fail
    refine (put_on B g s x l c ts 1 ⟨#[40]⟩ false 1 w _ H.out hts HB.out (by omega) 1 rfl (by repeat (first | (refine Below.setCell ?_ (by simp) _) | exact pw_below_drewN ((Below.refl _ _).alloc (Nat.le_refl _) _) _))).mono ?_
    rintro e w1 ⟨rfl, hA⟩
    have HA := Aside0.mk hA
    clear hA
    go_wp2
    go_ret
    rw [HE.out]
    exact ⟨rfl, HA.out⟩
end Go.Proofs.YthklnopfgoekeaaDoor.X
