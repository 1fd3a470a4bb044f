/- LexisWrites: the law's own walk, where texts are of moderate size and the table of spaces stands. -/
import Derived.Test.YthklnopfgoekeaaGreatDoorHRWrite
import Derived.Test.YthklnopfgoekeaaGreatDoorHSort
import Derived.Test.YthklnopfgoekeaaGreatDoorX7
namespace Go.Proofs.YthklnopfgoekeaaGreatDoor.X
open Go.RowKit Go.Proofs.YthklnopfgoekeaaGreatDoorW.PrintWords Go.Proofs.YthklnopfgoekeaaGreatDoorW.PrintLast Go.Proofs.YthklnopfgoekeaaGreatDoorW.PrintMore
set_option linter.unusedVariables false
def awakeText : ByteArray := ⟨#[49, 50, 32, 124, 108, 101, 116, 124]⟩
theorem awake_scan : scanAll awakeText = ([⟨3, ⟨#[49, 50]⟩, false, 1, 1⟩, ⟨8, ⟨#[108, 101, 116]⟩, true, 1, 4⟩], 0, 0, 0) := by
  kernel_rfl
theorem awake_join : lexis_Join.f [⟨3, ⟨#[49, 50]⟩, false, 1, 1⟩, ⟨8, ⟨#[108, 101, 116]⟩, true, 1, 4⟩] = some (awakeText, 0) := by
  kernel_rfl
theorem awake_told : tribunallaw06_awake.f = some true := by
  unfold tribunallaw06_awake.f
  have h : lexis_Scan.f (⟨#[49, 50, 32, 124, 108, 101, 116, 124]⟩ : ByteArray) = some ([⟨3, ⟨#[49, 50]⟩, false, 1, 1⟩, ⟨8, ⟨#[108, 101, 116]⟩, true, 1, 4⟩], 0, 0, 0) := congrArg some awake_scan
  rw [h, Option.bind_some, awake_join, Option.bind_some]
  have h1 : awakeText.toList = ([49, 50, 32, 124, 108, 101, 116, 124] : List UInt8) := by kernel_rfl
  have h2 : (⟨#[108, 101, 116]⟩ : ByteArray).toList = ([108, 101, 116] : List UInt8) := by kernel_rfl
  have h3 : (rd_T37 [(⟨3, ⟨#[49, 50]⟩, false, 1, 1⟩ : S37), ⟨8, ⟨#[108, 101, 116]⟩, true, 1, 4⟩] 1) = ⟨8, ⟨#[108, 101, 116]⟩, true, 1, 4⟩ := rfl
  rw [if_pos rfl, if_pos rfl, if_pos rfl, if_pos (by decide), if_pos (by decide)]
  show (if ((rd_T37 [(⟨3, ⟨#[49, 50]⟩, false, 1, 1⟩ : S37), ⟨8, ⟨#[108, 101, 116]⟩, true, 1, 4⟩] 1).f0 == 8 && _) = true then _ else _) = _
  rw [h3, if_pos (by simp [h2]), if_pos h1]
  rfl
set_option maxHeartbeats 4000000 in
set_option maxRecDepth 100000 in
theorem writes_walk (k : Int) (tx : ByteArray) (q : Bool) (l c : Int) (ht : tx.size ≤ 1099511627776) (s : ByteArray) (hs : s.size ≤ 1099511627776) (w : World) (htab : Spaces w) :
    Calls Tryz.prog 4 #[.agg #[.int .i64 k, .string tx, .bool q, .int .i64 l, .int .i64 c], .string s] w fun e w' => e = .returned (.bool true) ∧ Below w.heap.size w w' := by
  have HT := Aside0.mk htab
  have HL := Aside0.mk ht
  have HZ := Aside0.mk hs
  have HW := Aside0.mk (write_tells k tx q l c ht)
  have HRW := Aside0.mk (rwrite_tells k tx q l c ht)
  have HS := Aside0.mk (string_tells s hs)
  have HRS := Aside0.mk (rstring_told s hs)
  obtain ⟨a, e, hae⟩ : ∃ a e, writeR k tx q = (a, e) := ⟨_, _, rfl⟩
  obtain ⟨b, f, hbf⟩ : ∃ b f, strR s = (b, f) := ⟨_, _, rfl⟩
  rw [hae] at HW HRW
  rw [hbf] at HS HRS
  clear htab ht hs hae hbf
  go_enter Tryz.func4, Tryz.ntmps4
  go_upto_region 1 with fail
  have hk37 := blk_new w (.cells #[.int .i64 k, .string tx, .bool q, .int .i64 l, .int .i64 c] 37)
  obtain ⟨w1, hw1⟩ : ∃ w1, w1 = w.alloc (.cells #[.int .i64 k, .string tx, .bool q, .int .i64 l, .int .i64 c] 37) := ⟨_, rfl⟩
  have HB1 : Aside0 (Below w.heap.size w w1) := ⟨by rw [hw1]; exact (Below.refl _ _).alloc (Nat.le_refl _) _⟩
  rw [← hw1] at hk37 ⊢
  have HK1 := Aside0.mk hk37
  have y0 : w1.cell? ⟨w.heap.size, 0, none⟩ = some (.int .i64 k) := (blk_cell hk37 0).trans rfl
  have y1 : w1.cell? ⟨w.heap.size, 1, none⟩ = some (.string tx) := (blk_cell hk37 1).trans rfl
  have y2 : w1.cell? ⟨w.heap.size, 2, none⟩ = some (.bool q) := (blk_cell hk37 2).trans rfl
  have y3 : w1.cell? ⟨w.heap.size, 3, none⟩ = some (.int .i64 l) := (blk_cell hk37 3).trans rfl
  have y4 : w1.cell? ⟨w.heap.size, 4, none⟩ = some (.int .i64 c) := (blk_cell hk37 4).trans rfl
  clear hk37 hw1
  go_wp2_with fail
  refine (HW.out w1).mono ?_
  rintro e_ w2 ⟨rfl, hb⟩
  have HB2 := Aside0.mk (below_then HB1.out HB1.out.size hb)
  have HK2 := Aside0.mk (blk_below HK1.out hb)
  clear y0 y1 y2 y3 y4 hb HK1 HB1
  have y0 : w2.cell? ⟨w.heap.size, 0, none⟩ = some (.int .i64 k) := (blk_cell HK2.out 0).trans rfl
  have y1 : w2.cell? ⟨w.heap.size, 1, none⟩ = some (.string tx) := (blk_cell HK2.out 1).trans rfl
  have y2 : w2.cell? ⟨w.heap.size, 2, none⟩ = some (.bool q) := (blk_cell HK2.out 2).trans rfl
  have y3 : w2.cell? ⟨w.heap.size, 3, none⟩ = some (.int .i64 l) := (blk_cell HK2.out 3).trans rfl
  have y4 : w2.cell? ⟨w.heap.size, 4, none⟩ = some (.int .i64 c) := (blk_cell HK2.out 4).trans rfl
  go_wp2_with fail
  refine (HRW.out w2).mono ?_
  rintro e_ w3 ⟨rfl, hb⟩
  have HB3 := Aside0.mk (below_then HB2.out HB2.out.size hb)
  clear y0 y1 y2 y3 y4 hb HK2 HB2
  go_wp2_with fail
  refine (HS.out w3).mono ?_
  rintro e_ w4 ⟨rfl, hb⟩
  have HB4 := Aside0.mk (below_then HB3.out HB3.out.size hb)
  clear hb HB3
  go_wp2_with fail
  refine (tribunalref06_String.calls (s.size + 1) s b f w4 HRS.out).mono ?_
  rintro e_ w5 ⟨rfl, n, rfl⟩
  have HB5 : Aside0 (Below w.heap.size w (w4.drewN n)) := ⟨pw_below_drewN HB4.out n⟩
  have HT5 : Aside0 (Spaces (w4.drewN n)) := ⟨spaces_below HT.out HB5.out⟩
  have hee : (e == e) = true := beq_self_eq_true e
  have hff : (f == f) = true := beq_self_eq_true f
  go_wp2_with fail
  refine (symbol_tells s HZ.out _ HT5.out).mono ?_
  rintro e_ w6 ⟨rfl, hb⟩
  have HB6 := Aside0.mk (below_then HB5.out HB5.out.size hb)
  clear hb
  go_wp2_with fail
  refine (rquote_tells s HZ.out _).mono ?_
  rintro e_ w7 ⟨rfl, hb⟩
  have HB7 := Aside0.mk (below_then HB6.out HB6.out.size hb)
  obtain ⟨t, ht⟩ : ∃ t, t = quotedS s := ⟨_, rfl⟩
  rw [← ht]
  clear hb ht
  go_wp2_with fail
  refine (tribunallaw06_awake.calls true _ awake_told).mono ?_
  rintro e_ w8 ⟨rfl, hb⟩
  go_wp2
  go_ret
  exact ⟨rfl, below_then HB7.out HB7.out.size hb⟩
end Go.Proofs.YthklnopfgoekeaaGreatDoor.X
