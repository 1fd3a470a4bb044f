import Derived.Test.YthklnopfgoekeaaDoorHBase
namespace Go.Proofs.YthklnopfgoekeaaDoor.X
open Go.RowKit Go.Proofs.YthklnopfgoekeaaDoorW.PrintWords Go.Proofs.YthklnopfgoekeaaDoorW.PrintLast Go.Proofs.YthklnopfgoekeaaDoorW.PrintMore
set_option linter.unusedVariables false

set_option maxHeartbeats 2000000 in
theorem step_calls (g : Nat) (s : ByteArray) (x l c : Int) (v : Value) (n : Nat) (w : World) (h : Cells g s x l c v w) (hb : Nb s x l c) (hn : x + n ≤ s.size) :
    Calls Tryd.prog 65 #[.pointer (some ⟨g, 0, none⟩), .int .i64 n] w fun e w' => e = .returned (.tuple #[]) ∧ Cells g s (x + n) (lc s x l c n).1 (lc s x l c n).2 v w' ∧ Only g w w' := by
  have hs := hb.size
  have hx0 := hb.x0
  have H := Aside0.mk h
  have HB := Aside0.mk hb
  clear h hb
  go_enter Tryd.func65, Tryd.ntmps65
  go_wp2
  go_loopw [5] (fun i wr => ∃ (k : Nat) (x1 l1 c1 : Int), k ≤ n ∧ i = .int .i64 k ∧ Aside0 (x1 = x + k ∧ lc s x l c k = (l1, c1)) ∧ Aside0 (Nb s x1 l1 c1) ∧ Aside0 (Cells g s x1 l1 c1 v wr) ∧ Aside0 (Only g w wr)) (fun i _ => n - (intOf i).toNat)
  case atStart => exact ⟨0, x, l, c, by omega, rfl, ⟨by omega, rfl⟩, HB, H, ⟨Only.refl _ _⟩⟩
  case round =>
    obtain ⟨k, x1, l1, c1, hk, rfl, HE, HN, HC, HF⟩ := hrel
    by_cases hlt : k < n
    · have q1 : x1 < (s.size : Int) := by have := HE.out.1; omega
      have q0 : 0 ≤ x1 := HN.out.x0
      have r1 := HN.out.l1
      have r2 := HN.out.l2
      have r3 := HN.out.c1
      have r4 := HN.out.c2
      have hc0 := HC.out.c0
      have hc1 := HC.out.c1
      have hc2 := HC.out.c2
      have hc3 := HC.out.c3
      have hf1 := HC.out.fz 1
      have hf2 := HC.out.fz 2
      have hf3 := HC.out.fz 3
      have hx := bt_at s x1
      by_cases hnl : (bt s x1 == 10) = true
      · go_wp2
        go_quiet (fail)
        go_wp2
        go_roundw
        case rel => exact ⟨k + 1, x1 + 1, l1 + 1, 1, by omega, by go_num, ⟨by have := HE.out.1; omega, by rw [lc_nl (by rw [← HE.out.1]; exact hnl), HE.out.2]⟩, ⟨by obtain ⟨a1, a2, a3, a4, a5, a6, a7⟩ := HN.out; exact ⟨a1, by omega, by omega, by omega, by omega, by omega, by omega⟩⟩, ⟨((((HC.out.drewN _).set2 _).set3 _).set3 _).set1 _⟩, ⟨((((HF.out.drewN _).set_ _ _).set_ _ _).set_ _ _).set_ _ _⟩⟩
        case measure => simp [intOf]; omega
      · replace hnl := Bool.eq_false_iff.mpr hnl
        go_wp2
        go_quiet (fail)
        go_wp2
        go_roundw
        case rel => exact ⟨k + 1, x1 + 1, l1, c1 + 1, by omega, by go_num, ⟨by have := HE.out.1; omega, by rw [lc_no (by rw [← HE.out.1]; exact hnl), HE.out.2]⟩, ⟨by obtain ⟨a1, a2, a3, a4, a5, a6, a7⟩ := HN.out; exact ⟨a1, by omega, by omega, by omega, by omega, by omega, by omega⟩⟩, ⟨((HC.out.drewN _).set3 _).set1 _⟩, ⟨((HF.out.drewN _).set_ _ _).set_ _ _⟩⟩
        case measure => simp [intOf]; omega
    · obtain rfl : k = n := by omega
      go_wp2
      go_end0
      obtain ⟨he1, he2⟩ := HE.out
      subst he1
      rw [he2]
      exact ⟨rfl, HC.out, HF.out⟩
end Go.Proofs.YthklnopfgoekeaaDoor.X
