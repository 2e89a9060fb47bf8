/- sprocketlaw09.ActTexts: the walk. -/
import Derived.Outline
import Derived.Test.YtdibkhddhgaghaaDoorActAwake
namespace Go.Proofs.YtdibkhddhgaghaaDoor.Ac
open Go.RowKit
set_option linter.unusedVariables false
set_option linter.unusedSimpArgs false
set_option maxRecDepth 100000
set_option maxHeartbeats 16000000
theorem law_any (w : World) (hv : Av w) (x : ActL) (hx : Rng x) (hlo : -9223372036854775808 ≤ x.cell) (s : ByteArray) (hs : s.size ≤ 9223372036854775807) : Calls Tryd.prog 3 #[encA x, .string s] w fun e w' => e = .returned (.bool true) ∧ Below w.heap.size w w' := by
  have HV := Lib.hid hv
  have HAW := Lib.hid (fun (W : World) (hW : Below w.heap.size w W) => awake_any W (HV.out.below hW))
  clear hv
  by_cases hbig : 200 < s.size
  · obtain ⟨k, b, c, o, n⟩ := x
    unfold encA cellsA
    dsimp only
    clear hx hlo
    go_enter Tryd.func3, Tryd.ntmps3
    go_wp2_with fail
    refine (HAW.out _ ((Below.refl _ _).alloc (Nat.le_refl _) _)).mono ?_
    rintro e w1 ⟨rfl, hb1⟩
    have HB1 := Lib.hid (show Below w.heap.size w w1 from ((Below.refl _ _).alloc (Nat.le_refl _) _).trans (hb1.mono (by simp)))
    clear hb1
    go_wp2_with fail
    go_ret
    exact ⟨rfl, HB1.out⟩
  have HR1 := Lib.hid (fun (W : World) (hW : Below w.heap.size w W) => read_any W s (by omega) (HV.out.below hW))
  have HR2 := Lib.hid (fun (W : World) => rread_any W s (by omega))
  rw [read_same] at HR1
  obtain ⟨rp, hrp⟩ : ∃ r, readR s (Pt.parts 32 s) = r := ⟨_, rfl⟩
  rw [hrp] at HR1 HR2
  clear hrp
  have HT1 := Lib.hid (fun (W : World) (hW : Below w.heap.size w W) => text_any W x hx hlo (HV.out.below hW).wds (HV.out.below hW).pow)
  have HT2 := Lib.hid (fun (W : World) => rtext_any W x hx hlo)
  obtain ⟨TT, hTT⟩ : ∃ t, t = ba (textA x) := ⟨_, rfl⟩
  rw [← hTT] at HT1 HT2
  have hTs : TT.size ≤ 1000 := by rw [hTT, ba_size]; have := text_len hx; omega
  have HR3 := Lib.hid (fun (W : World) (hW : Below w.heap.size w W) => read_any W TT hTs (HV.out.below hW))
  obtain ⟨rq, hrq⟩ : ∃ r, readM TT (Pt.parts 32 TT) = r := ⟨_, rfl⟩
  have HQ : rightA x = true → ¬ 999999999999999999 < x.cell → rq = (x, 0) := fun h1 h2 => by rw [← hrq]; exact readM_good ⟨h1, by omega, hx, by rw [hTT, ba_data]⟩
  rw [hrq] at HR3
  have HRR := Lib.hid (fun (W : World) => rright_any W x)
  obtain ⟨rr, hrr⟩ : ∃ r, rightA x = r := ⟨_, rfl⟩
  rw [hrr] at HRR HQ
  clear hrr hrq hTT hTs hx hlo HV
  obtain ⟨⟨p0, p1, p2, p3, p4⟩, pe⟩ := rp
  obtain ⟨k, b, c, o, n⟩ := x
  obtain ⟨⟨q0, q1, q2, q3, q4⟩, qe⟩ := rq
  unfold encA cellsA at HR1 HR2 HR3 HT1 HT2 HRR
  unfold encA cellsA
  dsimp only at HR1 HR2 HR3 HT1 HT2 HRR HQ ⊢
  have HQQ := Lib.hid HQ
  clear HQ
  have heq := @act_eq5
  go_enter Tryd.func3, Tryd.ntmps3
  go_wp2_with fail
  have HB0 := Lib.hid (show Below w.heap.size w (w.alloc (.cells #[.int .i64 k, .int .u64 b, .int .i64 c, .int .u64 o, .int .u64 n] 24)) from (Below.refl _ _).alloc (Nat.le_refl _) _)
  refine (HR1.out _ HB0.out).mono ?_
  rintro e w1 ⟨rfl, hb1⟩
  have K1 := Lib.hid (show w1.heap[w.heap.size]? = some (.cells #[.int .i64 k, .int .u64 b, .int .i64 c, .int .u64 o, .int .u64 n] 24 (0, 0)) from (hb1.block w.heap.size (by simp)).trans (heap_alloc_new w _))
  have HB1 := Lib.hid (HB0.out.trans (hb1.mono HB0.out.size))
  clear hb1
  go_wp2_with fail
  obtain ⟨W1, hW1⟩ : ∃ y, y = w1.alloc (.cells #[.int .i64 p0, .int .u64 p1, .int .i64 p2, .int .u64 p3, .int .u64 p4] 24) := ⟨_, rfl⟩
  have KP1 := Lib.hid (show W1.heap[w1.heap.size]? = some (.cells #[.int .i64 p0, .int .u64 p1, .int .i64 p2, .int .u64 p3, .int .u64 p4] 24 (0, 0)) from by rw [hW1]; exact heap_alloc_new w1 _)
  have HBW1 := Lib.hid (show Below w1.heap.size w1 W1 from by rw [hW1]; exact (Below.refl _ _).alloc (Nat.le_refl _) _)
  rw [← hW1]
  clear hW1
  have KX1 := Lib.hid ((HBW1.out.block w.heap.size (lt_of_block K1.out)).trans K1.out)
  refine (HR2.out W1).mono ?_
  rintro e w2 ⟨rfl, hb2⟩
  have HB2 := Lib.hid hb2
  clear hb2
  have KX2' := Lib.hid ((HB2.out.block w.heap.size (lt_of_block KX1.out)).trans KX1.out)
  have hxl : w.heap.size < w2.heap.size := lt_of_block KX2'.out
  have x0 : w2.cell? ⟨w.heap.size, 0, none⟩ = some (.int .i64 k) := cell_of1' KX2'.out 0
  have x1 : w2.cell? ⟨w.heap.size, 1, none⟩ = some (.int .u64 b) := cell_of1' KX2'.out 1
  have x2 : w2.cell? ⟨w.heap.size, 2, none⟩ = some (.int .i64 c) := cell_of1' KX2'.out 2
  have x3 : w2.cell? ⟨w.heap.size, 3, none⟩ = some (.int .u64 o) := cell_of1' KX2'.out 3
  have x4 : w2.cell? ⟨w.heap.size, 4, none⟩ = some (.int .u64 n) := cell_of1' KX2'.out 4
  go_wp2_with fail
  clear x0 x1 x2 x3 x4
  obtain ⟨W2, hW2⟩ : ∃ y, y = w2.alloc (.cells #[.int .i64 p0, .int .u64 p1, .int .i64 p2, .int .u64 p3, .int .u64 p4] 24) := ⟨_, rfl⟩
  have KR2 := Lib.hid (show W2.heap[w2.heap.size]? = some (.cells #[.int .i64 p0, .int .u64 p1, .int .i64 p2, .int .u64 p3, .int .u64 p4] 24 (0, 0)) from by rw [hW2]; exact heap_alloc_new w2 _)
  have HBW2 := Lib.hid (show Below W1.heap.size W1 W2 from by rw [hW2]; exact HB2.out.alloc HB2.out.size _)
  rw [← hW2]
  clear hW2
  have KX2 := Lib.hid ((HBW2.out.block w.heap.size (lt_of_block KX1.out)).trans KX1.out)
  have KP2 := Lib.hid ((HBW2.out.block w1.heap.size (lt_of_block KP1.out)).trans KP1.out)
  have HBZ2 := Lib.hid (show Below w.heap.size w W2 from (HB1.out.trans (HBW1.out.mono HB1.out.size)).trans (HBW2.out.mono (by have := HB1.out.size; have := HBW1.out.size; omega)))
  have l0 := lt_of_block KX2.out
  have l1 := lt_of_block KP2.out
  have l2 := lt_of_block KR2.out
  refine (HT1.out W2 HBZ2.out).mono ?_
  rintro e w3 ⟨rfl, hb3⟩
  have HB3 := Lib.hid hb3
  clear hb3
  have KX3 := Lib.hid ((HB3.out.block w.heap.size l0).trans KX2.out)
  have x0 : w3.cell? ⟨w.heap.size, 0, none⟩ = some (.int .i64 k) := cell_of1' KX3.out 0
  have x1 : w3.cell? ⟨w.heap.size, 1, none⟩ = some (.int .u64 b) := cell_of1' KX3.out 1
  have x2 : w3.cell? ⟨w.heap.size, 2, none⟩ = some (.int .i64 c) := cell_of1' KX3.out 2
  have x3 : w3.cell? ⟨w.heap.size, 3, none⟩ = some (.int .u64 o) := cell_of1' KX3.out 3
  have x4 : w3.cell? ⟨w.heap.size, 4, none⟩ = some (.int .u64 n) := cell_of1' KX3.out 4
  go_wp2_with fail
  refine (HT2.out w3).mono ?_
  rintro e w4 ⟨rfl, hb4⟩
  have HB4 := Lib.hid (HB3.out.trans (hb4.mono HB3.out.size))
  clear hb4 x0 x1 x2 x3 x4
  have KP4 := Lib.hid ((HB4.out.block w1.heap.size l1).trans KP2.out)
  have KR4 := Lib.hid ((HB4.out.block w2.heap.size l2).trans KR2.out)
  have KX4 := Lib.hid ((HB4.out.block w.heap.size l0).trans KX2.out)
  have y0 : w4.cell? ⟨w1.heap.size, 0, none⟩ = some (.int .i64 p0) := cell_of1' KP4.out 0
  have y1 : w4.cell? ⟨w1.heap.size, 1, none⟩ = some (.int .u64 p1) := cell_of1' KP4.out 1
  have y2 : w4.cell? ⟨w1.heap.size, 2, none⟩ = some (.int .i64 p2) := cell_of1' KP4.out 2
  have y3 : w4.cell? ⟨w1.heap.size, 3, none⟩ = some (.int .u64 p3) := cell_of1' KP4.out 3
  have y4 : w4.cell? ⟨w1.heap.size, 4, none⟩ = some (.int .u64 p4) := cell_of1' KP4.out 4
  have z0 : w4.cell? ⟨w2.heap.size, 0, none⟩ = some (.int .i64 p0) := cell_of1' KR4.out 0
  have z1 : w4.cell? ⟨w2.heap.size, 1, none⟩ = some (.int .u64 p1) := cell_of1' KR4.out 1
  have z2 : w4.cell? ⟨w2.heap.size, 2, none⟩ = some (.int .i64 p2) := cell_of1' KR4.out 2
  have z3 : w4.cell? ⟨w2.heap.size, 3, none⟩ = some (.int .u64 p3) := cell_of1' KR4.out 3
  have z4 : w4.cell? ⟨w2.heap.size, 4, none⟩ = some (.int .u64 p4) := cell_of1' KR4.out 4
  have HBZ4 := Lib.hid (HBZ2.out.trans (HB4.out.mono HBZ2.out.size))
  go_wp2_with fail
  clear y0 y1 y2 y3 y4 z0 z1 z2 z3 z4
  refine (HR3.out w4 HBZ4.out).mono ?_
  rintro e w5 ⟨rfl, hb5⟩
  have HB5 := Lib.hid hb5
  clear hb5
  have KX5' := Lib.hid ((HB5.out.block w.heap.size (lt_of_block KX4.out)).trans KX4.out)
  have hxl5 : w.heap.size < w5.heap.size := lt_of_block KX5'.out
  have x0 : w5.cell? ⟨w.heap.size, 0, none⟩ = some (.int .i64 k) := cell_of1' KX5'.out 0
  have x1 : w5.cell? ⟨w.heap.size, 1, none⟩ = some (.int .u64 b) := cell_of1' KX5'.out 1
  have x2 : w5.cell? ⟨w.heap.size, 2, none⟩ = some (.int .i64 c) := cell_of1' KX5'.out 2
  have x3 : w5.cell? ⟨w.heap.size, 3, none⟩ = some (.int .u64 o) := cell_of1' KX5'.out 3
  have x4 : w5.cell? ⟨w.heap.size, 4, none⟩ = some (.int .u64 n) := cell_of1' KX5'.out 4
  go_wp2_with fail
  obtain ⟨W5, hW5⟩ : ∃ y, y = w5.alloc (.cells #[.int .i64 q0, .int .u64 q1, .int .i64 q2, .int .u64 q3, .int .u64 q4] 24) := ⟨_, rfl⟩
  have KQ5 := Lib.hid (show W5.heap[w5.heap.size]? = some (.cells #[.int .i64 q0, .int .u64 q1, .int .i64 q2, .int .u64 q3, .int .u64 q4] 24 (0, 0)) from by rw [hW5]; exact heap_alloc_new w5 _)
  have HBW5 := Lib.hid (show Below w4.heap.size w4 W5 from by rw [hW5]; exact HB5.out.alloc HB5.out.size _)
  rw [← hW5]
  clear hW5
  have KX5 := Lib.hid ((HBW5.out.block w.heap.size (lt_of_block KX4.out)).trans KX4.out)
  have HBZ5 := Lib.hid (HBZ4.out.trans (HBW5.out.mono HBZ4.out.size))
  have l3 := lt_of_block KX5.out
  have l4 := lt_of_block KQ5.out
  refine (HRR.out W5).mono ?_
  rintro e w6 ⟨rfl, hb6⟩
  have KX6 := Lib.hid ((hb6.block w.heap.size l3).trans KX5.out)
  have KQ6 := Lib.hid ((hb6.block w5.heap.size l4).trans KQ5.out)
  have HBZ6 := Lib.hid (HBZ5.out.trans (hb6.mono HBZ5.out.size))
  clear hb6 x0 x1 x2 x3 x4
  have x0 : w6.cell? ⟨w.heap.size, 0, none⟩ = some (.int .i64 k) := cell_of1' KX6.out 0
  have x1 : w6.cell? ⟨w.heap.size, 1, none⟩ = some (.int .u64 b) := cell_of1' KX6.out 1
  have x2 : w6.cell? ⟨w.heap.size, 2, none⟩ = some (.int .i64 c) := cell_of1' KX6.out 2
  have x3 : w6.cell? ⟨w.heap.size, 3, none⟩ = some (.int .u64 o) := cell_of1' KX6.out 3
  have x4 : w6.cell? ⟨w.heap.size, 4, none⟩ = some (.int .u64 n) := cell_of1' KX6.out 4
  have y0 : w6.cell? ⟨w5.heap.size, 0, none⟩ = some (.int .i64 q0) := cell_of1' KQ6.out 0
  have y1 : w6.cell? ⟨w5.heap.size, 1, none⟩ = some (.int .u64 q1) := cell_of1' KQ6.out 1
  have y2 : w6.cell? ⟨w5.heap.size, 2, none⟩ = some (.int .i64 q2) := cell_of1' KQ6.out 2
  have y3 : w6.cell? ⟨w5.heap.size, 3, none⟩ = some (.int .u64 q3) := cell_of1' KQ6.out 3
  have y4 : w6.cell? ⟨w5.heap.size, 4, none⟩ = some (.int .u64 q4) := cell_of1' KQ6.out 4
  cases rr with
  | false =>
    go_wp2_with fail
    refine (HAW.out w6 HBZ6.out).mono ?_
    rintro e w7 ⟨rfl, hb7⟩
    have HBZ7 := Lib.hid (HBZ6.out.trans (hb7.mono HBZ6.out.size))
    clear hb7
    go_wp2_with fail
    go_ret
    exact ⟨rfl, HBZ7.out⟩
  | true =>
    by_cases hc : 999999999999999999 < c
    · have hcb : decide (999999999999999999 < c) = true := decide_eq_true hc
      go_wp2_with fail
      refine (HAW.out w6 HBZ6.out).mono ?_
      rintro e w7 ⟨rfl, hb7⟩
      have HBZ7 := Lib.hid (HBZ6.out.trans (hb7.mono HBZ6.out.size))
      clear hb7
      go_wp2_with fail
      go_ret
      exact ⟨rfl, HBZ7.out⟩
    · have hcb : decide (999999999999999999 < c) = false := decide_eq_false hc
      have hq := HQQ.out rfl (by first | exact hc | omega)
      simp only [Prod.mk.injEq, ActL.mk.injEq] at hq
      obtain ⟨⟨rfl, rfl, rfl, rfl, rfl⟩, rfl⟩ := hq
      go_wp2_with fail
      refine (HAW.out w6 HBZ6.out).mono ?_
      rintro e w7 ⟨rfl, hb7⟩
      have HBZ7 := Lib.hid (HBZ6.out.trans (hb7.mono HBZ6.out.size))
      clear hb7
      go_wp2_with fail
      go_ret
      exact ⟨rfl, HBZ7.out⟩
end Go.Proofs.YtdibkhddhgaghaaDoor.Ac
