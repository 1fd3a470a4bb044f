/- SexpLooks: the law's own walk at tables of nodes of moderate size. -/
import Derived.Test.YthklnopfgoekeaaGreatDoorHRDepth
import Derived.Test.YthklnopfgoekeaaGreatDoorHHeads
import Derived.Test.YthklnopfgoekeaaGreatDoorHRParse
import Derived.Test.YthklnopfgoekeaaGreatDoorPAlive
namespace Go.Proofs.YthklnopfgoekeaaGreatDoor.X
open Go.RowKit Go.Proofs.YthklnopfgoekeaaGreatDoorW.PrintWords Go.Proofs.YthklnopfgoekeaaGreatDoorW.PrintLast Go.Proofs.YthklnopfgoekeaaGreatDoorW.PrintMore
set_option linter.unusedVariables false
set_option maxHeartbeats 4000000 in
set_option maxRecDepth 100000 in
theorem looks_walk (A0 : Option Addr) (c0 : Nat) (l0 : List S56) (a1 : Int) (w : World) (hr0 : Kd.C k56 w A0 l0.length l0) (hc0 : l0.length ≤ c0) (hM : Mod l0) :
    Calls Tryz.prog 3 #[.slice A0 l0.length c0, .int .i64 a1] w fun e w' => e = .returned (.bool true) ∧ Below w.heap.size w w' := by
  have HC := Aside0.mk hr0
  have HM := Aside0.mk hM
  have HZ : Aside0 ((rd_T56 l0 a1).f2.length ≤ 1099511627776) := ⟨hM.k a1.toNat⟩
  obtain ⟨K, hK⟩ := depth_told l0 hM a1
  have HD := Aside0.mk (rdepth_tells A0 c0 l0 a1)
  have HH := Aside0.mk (head_tells A0 c0 l0 a1)
  have HRH := Aside0.mk (rhead_tells A0 c0 l0 a1)
  have HKi := Aside0.mk (kids_tells A0 c0 l0 a1)
  have HRK := Aside0.mk (rkids_tells A0 c0 l0 a1)
  obtain ⟨dd, df, hd⟩ : ∃ dd df, depS l0 a1 = (dd, df) := ⟨_, _, rfl⟩
  obtain ⟨s, b, hh⟩ : ∃ s b, headR l0 a1 = (s, b) := ⟨_, _, rfl⟩
  obtain ⟨ks, hks⟩ : ∃ ks, kidsR l0 a1 = ks := ⟨_, rfl⟩
  rw [hd] at hK HD
  rw [hh] at HH HRH
  rw [hks] at HKi HRK
  have HK := Aside0.mk hK
  clear hr0 hM hK hd hh hks
  go_enter Tryz.func3, Tryz.ntmps3
  go_wp2_with fail
  refine (HH.out w HC.out HZ.out).mono ?_
  rintro e_ w1 ⟨rfl, hb⟩
  have HB1 := Aside0.mk hb
  clear hb
  go_wp2_with fail
  refine (HRH.out w1 (Kd.C_below HC.out HB1.out)).mono ?_
  rintro e_ w2 ⟨rfl, hb⟩
  have HB2 := Aside0.mk (below_then HB1.out HB1.out.size hb)
  clear hb
  go_wp2_with fail
  refine (sexp_Depth.calls K A0 c0 l0 a1 dd df w2 (Kd.C_below HC.out HB2.out) hc0 HK.out).mono ?_
  rintro e_ w3 ⟨rfl, hb⟩
  have HB3 := Aside0.mk (below_then HB2.out HB2.out.size hb)
  clear hb
  go_wp2_with fail
  refine (HD.out w3 (Kd.C_below HC.out HB3.out) HM.out).mono ?_
  rintro e_ w4 ⟨rfl, hb⟩
  have HB4 := Aside0.mk (below_then HB3.out HB3.out.size hb)
  have hbb : (b == b) = true := beq_self_eq_true b
  have hdd : (dd == dd) = true := beq_self_eq_true dd
  have hdf : (df == df) = true := beq_self_eq_true df
  clear hb
  go_wp2_with fail
  refine (HKi.out w4 (Kd.C_below HC.out HB4.out) HZ.out).mono ?_
  rintro e_ w5 ⟨v, rfl, hR, hb⟩
  have HB5 := Aside0.mk (below_then HB4.out HB4.out.size hb)
  obtain ⟨A5, c5, rfl, hc5, hC5⟩ := Kd.R_reads hR
  have HC5 := Aside0.mk hC5
  have Hc5 := Aside0.mk hc5
  clear hR hb hC5 hc5
  go_wp2_with fail
  refine (HRK.out w5 (Kd.C_below HC.out HB5.out)).mono ?_
  rintro e_ w6 ⟨A6, c6, rfl, hc6, hC6, hb⟩
  have HB6 := Aside0.mk (below_then HB5.out HB5.out.size hb)
  have HC56 := Aside0.mk (Kd.C_below HC5.out hb)
  have HC6 := Aside0.mk hC6
  have Hc6 := Aside0.mk hc6
  clear hb hC6 hc6
  go_wp2_with fail
  refine (tribunalref07_SameInts.calls A5 c5 ks A6 c6 ks true w6 HC56.out Hc5.out HC6.out Hc6.out (by unfold tribunalref07_SameInts.f; rw [if_pos rfl])).mono ?_
  rintro e_ w7 ⟨rfl, hb⟩
  have HB7 := Aside0.mk (below_then HB6.out HB6.out.size hb)
  clear hb
  go_wp2_with fail
  refine (tribunallaw07_alive.calls 42 true _ alive_told).mono ?_
  rintro e_ w8 ⟨rfl, hb⟩
  go_wp2
  go_ret
  exact ⟨rfl, below_then HB7.out HB7.out.size hb⟩
end Go.Proofs.YthklnopfgoekeaaGreatDoor.X
