/- SexpTexts: the law's own walk at tables of nodes of moderate size. -/
import Derived.Test.YthklnopfgoekeaaGreatDoorHRTexts
import Derived.Test.YthklnopfgoekeaaGreatDoorPAlive
namespace Go.Proofs.YthklnopfgoekeaaGreatDoor.X
open Go.RowKit Go.Proofs.YthklnopfgoekeaaGreatDoorW.PrintWords Go.Proofs.YthklnopfgoekeaaGreatDoorW.PrintLast Go.Proofs.YthklnopfgoekeaaGreatDoorW.PrintMore
set_option linter.unusedVariables false
set_option maxHeartbeats 4000000 in
set_option maxRecDepth 100000 in
theorem texts_walk (A0 : Option Addr) (c0 : Nat) (l0 : List S56) (a1 : Int) (w : World) (hr0 : Kd.C k56 w A0 l0.length l0) (hc0 : l0.length ≤ c0) (hM : Mod l0) :
    Calls Tryz.prog 5 #[.slice A0 l0.length c0, .int .i64 a1] w fun e w' => e = .returned (.bool true) ∧ Below w.heap.size w w' := by
  have HC := Aside0.mk hr0
  have HM := Aside0.mk hM
  obtain ⟨K, hK⟩ := text_told l0 hM a1
  have HR := Aside0.mk (rtext_tells A0 c0 l0 a1)
  obtain ⟨s, f, hsf⟩ : ∃ s f, textS l0 a1 = (s, f) := ⟨_, _, rfl⟩
  rw [hsf] at hK HR
  have HK := Aside0.mk hK
  clear hr0 hM hK hsf
  go_enter Tryz.func5, Tryz.ntmps5
  go_wp2_with fail
  refine (sexp_Text.calls K A0 c0 l0 a1 s f w HC.out hc0 HK.out).mono ?_
  rintro e_ w1 ⟨rfl, hb⟩
  have HB1 := Aside0.mk hb
  clear hb
  go_wp2_with fail
  refine (HR.out w1 (Kd.C_below HC.out HB1.out) HM.out).mono ?_
  rintro e_ w2 ⟨rfl, hb⟩
  have HB2 := Aside0.mk (below_then HB1.out HB1.out.size hb)
  have hf : (f == f) = true := beq_self_eq_true f
  clear hb
  go_wp2_with fail
  refine (tribunallaw07_alive.calls 42 true _ alive_told).mono ?_
  rintro e_ w3 ⟨rfl, hb⟩
  go_wp2
  go_ret
  exact ⟨rfl, below_then HB2.out HB2.out.size hb⟩
end Go.Proofs.YthklnopfgoekeaaGreatDoor.X
