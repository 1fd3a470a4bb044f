/- LexisWrites: the row and the tied card of the second form: what is read is of bulk at most 1048576. -/
import Derived.Test.YthklnopfgoekeaaGreatDoorRows
import Derived.Test.YthklnopfgoekeaaGreatDoorCards
import Derived.Test.YthklnopfgoekeaaGreatDoorTie
import Derived.Test.YthklnopfgoekeaaGreatDoorHToks
import Derived.Test.YthklnopfgoekeaaGreatDoorHWrites
import Derived.WalkKit
import Derived.ProofKit
import Derived.OpenShut
import Derived.ShutString
import Derived.ChangeOld
import Derived.Below
import Derived.SizedLaws
import Derived.PinnedBridge
import Derived.Lay
import Derived.LaidOnce
import Derived.SevenTiedAt
import Derived.Deep.DeepHandedRow
import Derived.Lib.LaidTab
import Derived.Lib.LaidU8
namespace Go.Proofs.YthklnopfgoekeaaGreatDoor.lexisWrites
open Go.ChangeShapes Go.WideShapes Go.ChangeAt Go.RowKit
open Go.ChangeMaps (open_string shut_string)
open Go.Proofs.YthklnopfgoekeaaGreatDoorW.PrintWords Go.Proofs.YthklnopfgoekeaaGreatDoorW.PrintLast Go.Proofs.YthklnopfgoekeaaGreatDoorW.PrintMore
set_option linter.unusedVariables false
theorem own : ownKnob Tryz.prog.godebug = none := by kernel_rfl
theorem laidOut : laidOutB Tryz.prog = true := by kernel_rfl
theorem space_data : (Rows.laid_strings_asciiSpace : DataW Unit) = Lib.tabData .u8 Lib.asciiSpaceTab := by kernel_rfl
theorem spaces_of {W : World} (h : laidMetH Tryz.prog Rows.lexisWritesUptoRow.laid W) : X.Spaces W := by
  rw [MakeChecks.laidMetH_plain _ _ _ (by kernel_rfl)] at h
  have hr : Lib.VarReads Tryz.prog W "strings.asciiSpace" (Lib.tabData .u8 Lib.asciiSpaceTab) := by
    rw [← space_data]
    exact Lib.laidMet.reads h (.tail _ (.tail _ (.head _)))
  obtain ⟨g, t, cs, fuel, p, hg, hty, hvar, hd⟩ := hr
  have hg3 : Tryz.prog.globalNamed "strings.asciiSpace" = some 3 := by kernel_rfl
  have hty3 : (Tryz.prog.globals[3]?).map (·.type) = some 138 := by kernel_rfl
  obtain rfl := Option.some.inj (hg3.symm.trans hg)
  obtain rfl := Option.some.inj (hty3.symm.trans hty)
  unfold X.Spaces Lib.TabIs
  rw [hvar, ← Lib.cells_of_tab Tryz.underlying138 Tryz.underlying5 (by kernel_rfl) (by kernel_rfl) hd]
set_option maxRecDepth 100000 in
theorem contract (H : Type) (enc : TypeId × Value → H) (W : World) (base : Nat) (args : Array Value) (ds gs : List (DataW H)) (before : List MemPlace)
    (hval0 : ∀ (j : Nat) t v, Tryz.f4.params[j]? = some t → args[j]? = some v → Value.okWide Tryz.prog W .any base t v)
    (hW : DataW.Whole enc Tryz.prog Tryz.f4.params.toList Rows.lexisWritesSpec.vars false W args.toList ds gs before) (hcond : Rows.uptoSmall H (ds ++ gs) = true) (htab : X.Spaces W) :
    Calls Tryz.prog 4 args W fun e W' => ∃ v, e = .returned v ∧ Rows.lexisWritesSpec.post enc Tryz.prog Tryz.f4 false true false false W args v W' := by
  have hval : ∀ (j : Nat) t v, Tryz.f4.params[j]? = some t → args[j]? = some v → Value.okWide Tryz.prog W .any base t v := hval0
  have hW' := hW
  obtain ⟨p, q, hA0, hV, rfl, hfz, hnd⟩ := hW
  have hA : DataW.TrodAll enc Tryz.prog W 0 (fun _ => true) true Tryz.f4.params.toList args.toList ds p := hA0
  rw [Tryz.params4] at hA hval
  obtain ⟨v0, vs0, d0, ds0, p0, q0, hargs, rfl, rfl, h0, r0⟩ := trodAll_cons hA
  obtain ⟨v1, vs1, d1, ds1, p1, q1, rfl, rfl, rfl, h1, r1⟩ := trodAll_cons r0
  obtain ⟨rfl, rfl, rfl⟩ := trodAll_nil r1
  obtain rfl : args = #[v0, v1] := by cases args; simp_all
  obtain ⟨rfl, rfl⟩ := trodVars_none hV
  obtain ⟨cs0, rfl, hcs0⟩ := okWide_struct Tryz.underlying37 (hval 0 37 v0 rfl rfl)
  have k0 := h0
  have lt0 : ∀ x ∈ p0, x.block < W.heap.size := by obtain ⟨m, hm⟩ := k0; exact DataW.trod_lt m _ _ _ hm
  obtain ⟨t, ht, hd0⟩ : ∃ t : X.S37, cs0.toList = [.int .i64 t.f0, .string t.f1, .bool t.f2, .int .i64 t.f3, .int .i64 t.f4] ∧ d0 = X.tokD t := by
    obtain ⟨fuel, hf⟩ := h0
    exact X.open_tok hf
  have hce : cs0 = #[.int .i64 t.f0, .string t.f1, .bool t.f2, .int .i64 t.f3, .int .i64 t.f4] := Array.ext' ht
  subst hce
  obtain ⟨a1, rfl, rfl, rfl, y1⟩ := open_string Tryz.underlying9 (hval 1 9 v1 rfl rfl) h1
  obtain ⟨z0, z1⟩ : t.f1.size ≤ 1048576 ∧ a1.size ≤ 1048576 := by
    have hb : Rows.uptoBulkAll (H := H) [d0, .lit (.string a1.data.toList)] ≤ 1048576 := by simpa [Rows.uptoSmall] using hcond
    have h2 := X.bulk_tok (H := H) t
    have e : a1.data.toList.length = a1.size := rfl
    rw [hd0] at hb
    simp only [Rows.uptoBulkAll, Rows.uptoBulk] at hb
    omega
  clear hA0 hval0 hcond
  refine (X.writes_walk t.f0 t.f1 t.f2 t.f3 t.f4 (by omega) a1 (by omega) W htab).mono fun e W' ⟨he, bel⟩ => ?_
  subst he
  exact ⟨_, rfl, _, _, _, [], _, [], hW', trodAll_mk1 (shut_bool Tryz.underlying4 _), (trodAll_cons_mk (Below.trod laidOut (by kernel_rfl) (of_decide_eq_true (by kernel_rfl)) k0 bel lt0) (trodAll_cons_mk (shut_string Tryz.underlying9 y1) trodAll_mk0)), rfl, bel.frame _, fun h => by cases h⟩
set_option maxRecDepth 100000 in
theorem reads (os : Os) {H : Type} (enc : TypeId × Value → H) : ∃ x, DataW.whole enc Tryz.prog ((World.laidAll Tryz.prog os Rows.lexisWritesUptoRow.laid).forCall (fun _ _ => 0) ⟨#[], #[.agg #[.int .i64 0, .string ⟨#[]⟩, .bool false, .int .i64 0, .int .i64 0], .string ⟨#[]⟩], []⟩).memory Tryz.f4.params.toList Rows.lexisWritesSpec.vars false #[.agg #[.int .i64 0, .string ⟨#[]⟩, .bool false, .int .i64 0, .int .i64 0], .string ⟨#[]⟩].toList 8 = some (x : List (DataW H) × List (DataW H) × List MemPlace) ∧ Rows.uptoSmall H (x.1 ++ x.2.1) = true ∧ (Rows.lexisWritesUptoRow.domain.all (PathCond.test Tryz.prog ⟨Tryz.f4.params.toList, x.1, (Rows.OpenSpec.upto Rows.lexisWritesSpec).bare.plain.varTypes Tryz.prog, x.2.1⟩) = true) :=
  ⟨([.agg [.lit (.int .i64 0), .lit (.string []), .lit (.bool false), .lit (.int .i64 0), .lit (.int .i64 0)], .lit (.string [])], [], []), by kernel_rfl, by kernel_rfl, by kernel_rfl⟩
theorem okIn (os : Os) : Input.okWideB Tryz.prog (World.laidAll Tryz.prog os Rows.lexisWritesUptoRow.laid) 4 ⟨#[], #[.agg #[.int .i64 0, .string ⟨#[]⟩, .bool false, .int .i64 0, .int .i64 0], .string ⟨#[]⟩], []⟩ = true := by kernel_rfl
set_option maxHeartbeats 4000000 in
set_option maxRecDepth 100000 in
theorem lifted (os : Os) (started : os.Started) (H : Type) (enc : TypeId × Value → H) (F : Stop.Interp) :
    ReturnsInHanded {} Tryz.checked os 4 .any ((Rows.OpenSpec.upto Rows.lexisWritesSpec).preRow enc Tryz.prog Tryz.f4 Rows.lexisWritesUptoRow.domain false Rows.lexisWritesUptoRow.laid) (((Rows.OpenSpec.upto Rows.lexisWritesSpec).at F).post enc Tryz.prog Tryz.f4 false true false false) := by
  obtain ⟨x, hx, hx2, hx3⟩ := reads os enc
  have k1 := (Input.okWide_of_okWideB (base := 0) (okIn os)).1
  have k2 := fun base => (Input.okWide_of_okWideB (base := base) (okIn os)).2
  refine returnsInHanded_of_row (C := Tryz.checked) (s := Rows.OpenSpec.upto Rows.lexisWritesSpec) own started (by kernel_rfl) Tryz.func4
    ⟨World.laidAll Tryz.prog os Rows.lexisWritesUptoRow.laid, fun _ _ => 0, ⟨#[], #[.agg #[.int .i64 0, .string ⟨#[]⟩, .bool false, .int .i64 0, .int .i64 0], .string ⟨#[]⟩], []⟩, World.laidAll_os _ _ _, World.shaped_of_ZipB (by kernel_rfl) (by kernel_rfl), k1, k2 _,
      OpenSpec.preRow_of_cond 8 hx hx3 (fun k hk => by cases hk; exact hx2) (by kernel_rfl) (by rw [MakeChecks.laidMetH_plain _ _ _ (by kernel_rfl)]; exact laidMet_laidAll _ (by kernel_rfl) (by kernel_rfl)), by
        simp only [Assume.holds]
        exact ⟨by simp, by simp, fun _ => Modest.zero, by simp, by simp⟩⟩ ?_
  intro W base args ds gs before hval hW _ hcond _ hL _ _
  exact contract H enc W base args ds gs before hval hW (hcond _ rfl) (spaces_of hL)
theorem said : Rows.LexisWritesUptoSaid :=
  OpenClaim.holds_of_cond 4 Tryz.f4 rfl rfl rfl rfl rfl rfl rfl ⟨rfl, rfl, rfl, rfl, rfl⟩ rfl rfl rfl rfl rfl (by kernel_rfl) Tryz.func4 (by kernel_rfl)
    (of_decide_eq_true (by kernel_rfl)) (by unfold Func.isWrapper; first | (rw [if_pos (by decide +kernel)]; kernel_rfl) | (rw [if_neg (by decide +kernel)]; exact ⟨rfl, rfl⟩))
    (fun os started H enc _ F => by rw [OpenClaim.pre_eq_preRow]; exact lifted os started H enc F)
theorem proved : Rows.LexisWritesUptoCardSaid :=
  Claim7.holds_tied_plain_at .later [] [.data, .listed, .data, .pinned, .pinned] true (true, "de57ea7ff4ac400e8ce36dee5796a9dcb006a19ac0150625bcda224cfefdb02e") false said (fun _ h => by cases h) (by kernel_rfl) (fun _ h => by cases h) lexisWritesUpto_row_tie rfl ⟨rfl, rfl⟩ (by kernel_rfl) rfl
    (fun f fn hf hfn => by
      obtain rfl : f = 4 := Option.some.inj ((show Tryz.prog.funcNamed "tribunal/tribunallaw06.LexisWrites" = some 4 by kernel_rfl).symm.trans hf) |>.symm
      obtain rfl : fn = Tryz.f4 := (Option.some.inj (Tryz.func4.symm.trans hfn)).symm
      exact ⟨by kernel_rfl, fun j t ht => by
        rw [Tryz.params4] at ht
        have hm : t ∈ [37, 9] := by simpa using Array.mem_of_getElem? ht
        have hall : ([37, 9].all fun u => !Tryz.prog.wantsStandIn u) = true := by kernel_rfl
        exact (show Tryz.prog.wantsStandIn t = false by simpa using List.all_eq_true.1 hall t hm)⟩)
    (by kernel_rfl)
#print axioms proved
end Go.Proofs.YthklnopfgoekeaaGreatDoor.lexisWrites
