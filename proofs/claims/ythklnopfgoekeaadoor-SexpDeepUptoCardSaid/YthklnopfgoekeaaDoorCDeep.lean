/- SexpDeep: the row and the tied card of the second form: what is read is of bulk at most 1048576. -/
import Derived.Test.YthklnopfgoekeaaDoorRows
import Derived.Test.YthklnopfgoekeaaDoorCards
import Derived.Test.YthklnopfgoekeaaDoorTie
import Derived.Test.YthklnopfgoekeaaDoorHDeep
import Derived.Test.YthklnopfgoekeaaDoorHDeep
import Derived.WalkKit
import Derived.ProofKit
import Derived.OpenShut
import Derived.ShutString
import Derived.ChangeOld
import Derived.Below
import Derived.SizedLaws
import Derived.PinnedBridge
import Derived.Lay
import Derived.LaidOnce
import Derived.SevenTiedAt
import Derived.Deep.DeepHandedRow
namespace Go.Proofs.YthklnopfgoekeaaDoor.sexpDeep
open Go.ChangeShapes Go.WideShapes Go.ChangeAt Go.RowKit
open Go.Proofs.YthklnopfgoekeaaDoorW.PrintWords Go.Proofs.YthklnopfgoekeaaDoorW.PrintLast Go.Proofs.YthklnopfgoekeaaDoorW.PrintMore
set_option linter.unusedVariables false
theorem own : ownKnob Tryd.prog.godebug = none := by kernel_rfl
theorem laidOut : laidOutB Tryd.prog = true := by kernel_rfl
theorem small_next {H : Type} {d : DataW H} {r : List (DataW H)} (h : Rows.uptoSmall H (d :: r) = true) : Rows.uptoSmall H r = true := by
  have hb : Rows.uptoBulkAll (d :: r) ≤ 1048576 := by simpa [Rows.uptoSmall] using h
  rw [Rows.uptoBulkAll] at hb
  simp only [Rows.uptoSmall]
  exact decide_eq_true (by omega)
theorem u16_facts {n : Int} (h : (Lit.int .u16 n).wf = true) : 0 ≤ n ∧ n < 65536 := by
  replace h : (decide (IntKind.u16.min ≤ n) && decide (n ≤ IntKind.u16.max)) = true := h
  rw [Bool.and_eq_true, decide_eq_true_eq, decide_eq_true_eq] at h
  have e1 : IntKind.u16.min = 0 := by rfl
  have e2 : IntKind.u16.max = 65535 := by rfl
  rw [e1, e2] at h
  omega
set_option maxRecDepth 100000 in
theorem contract (H : Type) (enc : TypeId × Value → H) (W : World) (base : Nat) (args : Array Value) (ds gs : List (DataW H)) (before : List MemPlace)
    (hval0 : ∀ (j : Nat) t v, Tryd.f14.params[j]? = some t → args[j]? = some v → Value.okWide Tryd.prog W .any base t v)
    (hW : DataW.Whole enc Tryd.prog Tryd.f14.params.toList Rows.sexpDeepSpec.vars false W args.toList ds gs before) (hcond : Rows.uptoSmall H (ds ++ gs) = true) :
    Calls Tryd.prog 14 args W fun e W' => ∃ v, e = .returned v ∧ Rows.sexpDeepSpec.post enc Tryd.prog Tryd.f14 false true false false W args v W' := by
  have hval : ∀ (j : Nat) t v, Tryd.f14.params[j]? = some t → args[j]? = some v → Value.okWide Tryd.prog W .any base t v := hval0
  have hW' := hW
  obtain ⟨p, q, hA0, hV, rfl, hfz, hnd⟩ := hW
  have hA : DataW.TrodAll enc Tryd.prog W 0 (fun _ => true) true Tryd.f14.params.toList args.toList ds p := hA0
  rw [Tryd.params14] at hA hval
  obtain ⟨v0, vs0, d0, ds0, p0, q0, hargs, rfl, rfl, h0, r0⟩ := trodAll_cons hA
  obtain ⟨v1, vs1, d1, ds1, p1, q1, rfl, rfl, rfl, h1, r1⟩ := trodAll_cons r0
  obtain ⟨rfl, rfl, rfl⟩ := trodAll_nil r1
  obtain rfl : args = #[v0, v1] := by cases args; simp_all
  obtain ⟨rfl, rfl⟩ := trodVars_none hV
  obtain ⟨a0, rfl, rfl, rfl, y0⟩ := open_int Tryd.underlying59 (hval 0 59 v0 rfl rfl) h0
  obtain ⟨a1, len1, cap1, rfl⟩ := okWide_slice Tryd.underlying22 (hval 1 22 v1 rfl rfl)
  have k1 := h1
  have lt1 : ∀ x ∈ p1, x.block < W.heap.size := by obtain ⟨m, hm⟩ := k1; exact DataW.trod_lt m _ _ _ hm
  obtain ⟨xs1, hlen1, hcap1, hC1, hd1⟩ : ∃ xs : List X.S38, xs.length = len1 ∧ len1 ≤ cap1 ∧ Kd.C X.k38 W a1 xs.length xs ∧ (d1 = .nil ∧ xs = [] ∨ ∃ sp, d1 = .slice (xs.map X.tokD) sp) := by
    obtain ⟨fuel, hf⟩ := h1
    exact X.open_toks hf
  subst hlen1
  obtain ⟨s1, t1⟩ := X.small_toks (small_next hcond) hd1
  clear hA0 hval0
  refine (X.deep_walk a0 (u16_facts y0).1 (u16_facts y0).2 _ _ xs1 W hC1 hcap1 s1 t1).mono fun e W' ⟨he, bel⟩ => ?_
  subst he
  exact ⟨_, rfl, _, _, _, [], _, [], hW', trodAll_mk1 (shut_bool Tryd.underlying4 _), (trodAll_cons_mk (shut_int Tryd.underlying59 y0) (trodAll_cons_mk (Below.trod laidOut (by kernel_rfl) (of_decide_eq_true (by kernel_rfl)) k1 bel lt1) trodAll_mk0)), rfl, bel.frame _, fun h => by cases h⟩
set_option maxRecDepth 100000 in
theorem reads (os : Os) {H : Type} (enc : TypeId × Value → H) : ∃ x, DataW.whole enc Tryd.prog ((World.laidAll Tryd.prog os Rows.sexpDeepUptoRow.laid).forCall (fun _ _ => 0) ⟨#[], #[.int .u16 0, .slice none 0 0], []⟩).memory Tryd.f14.params.toList Rows.sexpDeepSpec.vars false #[.int .u16 0, .slice none 0 0].toList 8 = some (x : List (DataW H) × List (DataW H) × List MemPlace) ∧ Rows.uptoSmall H (x.1 ++ x.2.1) = true ∧ (Rows.sexpDeepUptoRow.domain.all (PathCond.test Tryd.prog ⟨Tryd.f14.params.toList, x.1, (Rows.OpenSpec.upto Rows.sexpDeepSpec).bare.plain.varTypes Tryd.prog, x.2.1⟩) = true) :=
  ⟨([.lit (.int .u16 0), .nil], [], []), by kernel_rfl, by kernel_rfl, by kernel_rfl⟩
theorem okIn (os : Os) : Input.okWideB Tryd.prog (World.laidAll Tryd.prog os Rows.sexpDeepUptoRow.laid) 14 ⟨#[], #[.int .u16 0, .slice none 0 0], []⟩ = true := by kernel_rfl
set_option maxHeartbeats 4000000 in
set_option maxRecDepth 100000 in
theorem lifted (os : Os) (started : os.Started) (H : Type) (enc : TypeId × Value → H) (F : Stop.Interp) :
    ReturnsInHanded {} Tryd.checked os 14 .any ((Rows.OpenSpec.upto Rows.sexpDeepSpec).preRow enc Tryd.prog Tryd.f14 Rows.sexpDeepUptoRow.domain false Rows.sexpDeepUptoRow.laid) (((Rows.OpenSpec.upto Rows.sexpDeepSpec).at F).post enc Tryd.prog Tryd.f14 false true false false) := by
  obtain ⟨x, hx, hx2, hx3⟩ := reads os enc
  have k1 := (Input.okWide_of_okWideB (base := 0) (okIn os)).1
  have k2 := fun base => (Input.okWide_of_okWideB (base := base) (okIn os)).2
  refine returnsInHanded_of_row (C := Tryd.checked) (s := Rows.OpenSpec.upto Rows.sexpDeepSpec) own started (by kernel_rfl) Tryd.func14
    ⟨World.laidAll Tryd.prog os Rows.sexpDeepUptoRow.laid, fun _ _ => 0, ⟨#[], #[.int .u16 0, .slice none 0 0], []⟩, World.laidAll_os _ _ _, World.shaped_of_ZipB (by kernel_rfl) (by kernel_rfl), k1, k2 _,
      OpenSpec.preRow_of_cond 8 hx hx3 (fun k hk => by cases hk; exact hx2) (by kernel_rfl) (by rw [MakeChecks.laidMetH_plain _ _ _ (by kernel_rfl)]; exact laidMet_laidAll _ (by kernel_rfl) (by kernel_rfl)), by
        simp only [Assume.holds]
        exact ⟨by simp, by simp, fun _ => Modest.zero, by simp, by simp⟩⟩ ?_
  intro W base args ds gs before hval hW _ hcond _ hL _ _
  exact contract H enc W base args ds gs before hval hW (hcond _ rfl)
theorem said : Rows.SexpDeepUptoSaid :=
  OpenClaim.holds_of_cond 14 Tryd.f14 rfl rfl rfl rfl rfl rfl rfl ⟨rfl, rfl, rfl, rfl, rfl⟩ rfl rfl rfl rfl rfl (by kernel_rfl) Tryd.func14 (by kernel_rfl)
    (of_decide_eq_true (by kernel_rfl)) (by unfold Func.isWrapper; first | (rw [if_pos (by decide +kernel)]; kernel_rfl) | (rw [if_neg (by decide +kernel)]; exact ⟨rfl, rfl⟩))
    (fun os started H enc _ F => by rw [OpenClaim.pre_eq_preRow]; exact lifted os started H enc F)
theorem proved : Rows.SexpDeepUptoCardSaid :=
  Claim7.holds_tied_plain_at .later [] [.data, .pinned, .pinned] true (true, "dee6ef5f3e9bc62c996dd4fa6bdedbe6d4ea9111f84961a541eef724aa98195a") false said (fun _ h => by cases h) (by kernel_rfl) (fun _ h => by cases h) sexpDeepUpto_row_tie rfl ⟨rfl, rfl⟩ (by kernel_rfl) rfl
    (fun f fn hf hfn => by
      obtain rfl : f = 14 := Option.some.inj ((show Tryd.prog.funcNamed "tribunal/tribunallaw07.SexpDeep" = some 14 by kernel_rfl).symm.trans hf) |>.symm
      obtain rfl : fn = Tryd.f14 := (Option.some.inj (Tryd.func14.symm.trans hfn)).symm
      exact ⟨by kernel_rfl, fun j t ht => by
        rw [Tryd.params14] at ht
        have hm : t ∈ [59, 22] := by simpa using Array.mem_of_getElem? ht
        have hall : ([59, 22].all fun u => !Tryd.prog.wantsStandIn u) = true := by kernel_rfl
        exact (show Tryd.prog.wantsStandIn t = false by simpa using List.all_eq_true.1 hall t hm)⟩)
    (by kernel_rfl)
#print axioms proved
end Go.Proofs.YthklnopfgoekeaaDoor.sexpDeep
