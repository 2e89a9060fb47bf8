/- act.Do on the law's own acts; awake. -/
import Derived.Outline
import Derived.Test.YtdibkhddhgaghaaDoorActArena
namespace Go.Proofs.YtdibkhddhgaghaaDoor.Ac
open Go.RowKit
set_option linter.unusedVariables false
set_option linter.unusedSimpArgs false
set_option maxRecDepth 100000
set_option maxHeartbeats 8000000
theorem do_alloc {W : World} {g m B : Nat} (h : Ar W g m 0 0 #[] 0) (hgm : g ≠ m) (hg : B ≤ g) (hm : B ≤ m) (hB : B ≤ W.heap.size) :
    Calls Tryd.prog 38 #[.pointer (some ⟨g, 0, none⟩), .agg #[.int .i64 5, .int .u64 0, .int .i64 3, .int .u64 0, .int .u64 0]] W fun e w' => e = .returned (.int .u64 1) ∧ ∃ s, Ar1 w' g m s 0 ∧ Below B W w' ∧ B ≤ s := by
  have HR := Lib.hid (fun W => right_any W ⟨5, 0, 3, 0, 0⟩)
  rw [show rightA ⟨5, 0, 3, 0, 0⟩ = true by decide] at HR
  unfold encA cellsA at HR
  dsimp only at HR
  have HA := Lib.hid h
  have hgl := lt_of_block h.g
  clear h
  go_enter Tryd.func38, Tryd.ntmps38
  go_wp2_with fail
  refine (HR.out _).mono ?_
  rintro e w1 ⟨rfl, hb⟩
  have HB1 := Lib.hid (show Below W.heap.size W w1 from ((Below.refl _ _).alloc (Nat.le_refl _) _).trans (hb.mono (by simp)))
  have HX := Lib.hid (show w1.heap[W.heap.size]? = some (.cells #[.int .i64 5, .int .u64 0, .int .i64 3, .int .u64 0, .int .u64 0] 24 (0, 0)) from (hb.block W.heap.size (by simp)).trans (heap_alloc_new W _))
  clear hb
  have x0 : w1.cell? ⟨W.heap.size, 0, none⟩ = some (.int .i64 5) := cell_of1' HX.out 0
  have x2 : w1.cell? ⟨W.heap.size, 2, none⟩ = some (.int .i64 3) := cell_of1' HX.out 2
  have HL := Lib.hid (alloc3 (HA.out.below HB1.out) hgm hg hm)
  go_wp2_with fail
  refine HL.out.mono ?_
  rintro e w2 ⟨rfl, s, ha, hb2, hs⟩
  have H2 := Lib.hid ha
  have HB2 := Lib.hid ((HB1.out.mono hB).trans hb2)
  clear ha hb2 x0 x2
  go_wp2_with fail
  go_ret
  exact ⟨rfl, s, H2.out, HB2.out, hs⟩
theorem Ar1.below {W W' : World} {g m s : Nat} {z : Int} (h : Ar1 W g m s z) (hb : Below W.heap.size W W') : Ar1 W' g m s z :=
  ⟨h.ar.below hb, (hb.block s (lt_of_block h.sl)).trans h.sl, h.gs, h.ms⟩
theorem do_store {W : World} {g m s B : Nat} (h : Ar1 W g m s 0) (hs : B ≤ s) (hB : B ≤ W.heap.size) :
    Calls Tryd.prog 38 #[.pointer (some ⟨g, 0, none⟩), .agg #[.int .i64 2, .int .u64 1, .int .i64 2, .int .u64 0, .int .u64 5]] W fun e w' => e = .returned (.int .u64 0) ∧ Ar1 w' g m s 5 ∧ Below B W w' := by
  have HR := Lib.hid (fun W => right_any W ⟨2, 1, 2, 0, 5⟩)
  rw [show rightA ⟨2, 1, 2, 0, 5⟩ = true by decide] at HR
  unfold encA cellsA at HR
  dsimp only at HR
  have HA := Lib.hid h
  have hgl := lt_of_block h.ar.g
  clear h
  go_enter Tryd.func38, Tryd.ntmps38
  go_wp2_with fail
  refine (HR.out _).mono ?_
  rintro e w1 ⟨rfl, hb⟩
  have HB1 := Lib.hid (show Below W.heap.size W w1 from ((Below.refl _ _).alloc (Nat.le_refl _) _).trans (hb.mono (by simp)))
  have HX := Lib.hid (show w1.heap[W.heap.size]? = some (.cells #[.int .i64 2, .int .u64 1, .int .i64 2, .int .u64 0, .int .u64 5] 24 (0, 0)) from (hb.block W.heap.size (by simp)).trans (heap_alloc_new W _))
  clear hb
  have x0 : w1.cell? ⟨W.heap.size, 0, none⟩ = some (.int .i64 2) := cell_of1' HX.out 0
  have x1 : w1.cell? ⟨W.heap.size, 1, none⟩ = some (.int .u64 1) := cell_of1' HX.out 1
  have x2 : w1.cell? ⟨W.heap.size, 2, none⟩ = some (.int .i64 2) := cell_of1' HX.out 2
  have x4 : w1.cell? ⟨W.heap.size, 4, none⟩ = some (.int .u64 5) := cell_of1' HX.out 4
  have HA1 := Lib.hid (HA.out.below HB1.out)
  have HL := Lib.hid (store12 HA1.out 5)
  go_wp2_with fail
  refine HL.out.mono ?_
  rintro e w2 ⟨rfl, rfl⟩
  clear x0 x1 x2 x4
  go_wp2_with fail
  go_ret
  refine ⟨rfl, ⟨⟨(Below.heap_setCell _ ⟨s, 2, none⟩ _ g HA1.out.gs).trans HA1.out.ar.g, (Below.heap_setCell _ ⟨s, 2, none⟩ _ m HA1.out.ms).trans HA1.out.ar.m⟩, setc HA1.out.sl 2 (.int .u64 5), HA1.out.gs, HA1.out.ms⟩, (HB1.out.mono hB).setCell (p := ⟨s, 2, none⟩) hs _⟩
theorem do_load {W : World} {g m s : Nat} (h : Ar1 W g m s 5) :
    Calls Tryd.prog 38 #[.pointer (some ⟨g, 0, none⟩), .agg #[.int .i64 1, .int .u64 1, .int .i64 2, .int .u64 0, .int .u64 0]] W fun e w' => e = .returned (.int .u64 5) ∧ Below W.heap.size W w' := by
  have HR := Lib.hid (fun W => right_any W ⟨1, 1, 2, 0, 0⟩)
  rw [show rightA ⟨1, 1, 2, 0, 0⟩ = true by decide] at HR
  unfold encA cellsA at HR
  dsimp only at HR
  have HA := Lib.hid h
  have hgl := lt_of_block h.ar.g
  clear h
  go_enter Tryd.func38, Tryd.ntmps38
  go_wp2_with fail
  refine (HR.out _).mono ?_
  rintro e w1 ⟨rfl, hb⟩
  have HB1 := Lib.hid (show Below W.heap.size W w1 from ((Below.refl _ _).alloc (Nat.le_refl _) _).trans (hb.mono (by simp)))
  have HX := Lib.hid (show w1.heap[W.heap.size]? = some (.cells #[.int .i64 1, .int .u64 1, .int .i64 2, .int .u64 0, .int .u64 0] 24 (0, 0)) from (hb.block W.heap.size (by simp)).trans (heap_alloc_new W _))
  clear hb
  have x0 : w1.cell? ⟨W.heap.size, 0, none⟩ = some (.int .i64 1) := cell_of1' HX.out 0
  have x1 : w1.cell? ⟨W.heap.size, 1, none⟩ = some (.int .u64 1) := cell_of1' HX.out 1
  have x2 : w1.cell? ⟨W.heap.size, 2, none⟩ = some (.int .i64 2) := cell_of1' HX.out 2
  have HL := Lib.hid (load12 (HA.out.below HB1.out))
  go_wp2_with fail
  refine HL.out.mono ?_
  rintro e w2 ⟨rfl, rfl⟩
  clear x0 x1 x2
  go_wp2_with fail
  go_ret
  exact ⟨rfl, HB1.out⟩
def sCas : ByteArray := ⟨#[99, 97, 115, 32, 50, 32, 49, 32, 48, 32, 55]⟩
def sLoad : ByteArray := ⟨#[108, 111, 97, 100, 32, 50]⟩
theorem r_cas : readM sCas (Pt.parts 32 sCas) = (⟨3, 2, 1, 0, 7⟩, 0) := readM_good ⟨by decide, by decide, ⟨by decide, by decide, by decide, by decide⟩, by decide +kernel⟩
theorem r_load : readM sLoad (Pt.parts 32 sLoad) = (zeroA, 3) := by decide +kernel
theorem t_zero : ba (textA zeroA) = ⟨#[110, 111, 110, 101]⟩ := rfl
theorem awake_any (w : World) (hv : Av w) : Calls Tryd.prog 8 #[] w fun e w' => e = .returned (.bool true) ∧ Below w.heap.size w w' := by
  have HV := Lib.hid hv
  have HR1 := Lib.hid (fun (W : World) (hW : Below w.heap.size w W) => read_any W sCas (by decide) (HV.out.below hW))
  have HR2 := Lib.hid (fun (W : World) (hW : Below w.heap.size w W) => read_any W sLoad (by decide) (HV.out.below hW))
  rw [r_cas] at HR1
  rw [r_load] at HR2
  unfold encA cellsA sCas at HR1
  unfold encA cellsA zeroA sLoad at HR2
  dsimp only at HR1 HR2
  have HTX := Lib.hid (fun (W : World) (hW : Below w.heap.size w W) => text_any W zeroA ⟨by decide, by decide, by decide, by decide⟩ (by decide) (HV.out.below hW).wds (HV.out.below hW).pow)
  rw [t_zero] at HTX
  unfold encA cellsA zeroA at HTX
  dsimp only at HTX
  have HWR := Lib.hid (fun W => writes_any W ⟨3, 2, 1, 0, 7⟩)
  rw [show writesA ⟨3, 2, 1, 0, 7⟩ = true by decide] at HWR
  unfold encA cellsA at HWR
  dsimp only at HWR
  have heq := @act_eq5
  clear hv
  go_enter Tryd.func8, Tryd.ntmps8
  go_wp2_with fail
  refine (HR1.out w (Below.refl _ _)).mono ?_
  rintro e w1 ⟨rfl, hb1⟩
  have HB1 := Lib.hid hb1
  clear hb1
  go_wp2_with fail
  obtain ⟨W1, hW1⟩ : ∃ x, x = w1.alloc (.cells #[.int .i64 3, .int .u64 2, .int .i64 1, .int .u64 0, .int .u64 7] 24) := ⟨_, rfl⟩
  have HX1 := Lib.hid (show W1.heap[w1.heap.size]? = some (.cells #[.int .i64 3, .int .u64 2, .int .i64 1, .int .u64 0, .int .u64 7] 24 (0, 0)) from by rw [hW1]; exact heap_alloc_new w1 _)
  have HBX := Lib.hid (show Below w.heap.size w W1 from by rw [hW1]; exact HB1.out.alloc HB1.out.size _)
  rw [← hW1]
  clear hW1
  refine (HR2.out W1 HBX.out).mono ?_
  rintro e w2 ⟨rfl, hb2⟩
  have HB2 := Lib.hid hb2
  clear hb2
  go_wp2_with fail
  obtain ⟨W2, hW2⟩ : ∃ x, x = w2.alloc (.cells #[.int .i64 0, .int .u64 0, .int .i64 0, .int .u64 0, .int .u64 0] 24) := ⟨_, rfl⟩
  have HB12 := Lib.hid (show Below W1.heap.size W1 W2 from by rw [hW2]; exact HB2.out.alloc HB2.out.size _)
  rw [← hW2]
  clear hW2
  have HBY := Lib.hid (show Below w.heap.size w W2 from HBX.out.trans (HB12.out.mono HBX.out.size))
  have HX2 := Lib.hid ((HB12.out.block w1.heap.size (lt_of_block HX1.out)).trans HX1.out)
  have hwl := lt_of_block HX2.out
  refine (new9 W2).mono ?_
  rintro e w3 ⟨rfl, hw3⟩
  have HA3 := Lib.hid (show Ar w3 (W2.heap.size + 1) W2.heap.size 0 0 #[] 0 from by
    rw [hw3]
    exact ⟨by rw [show W2.heap.size + 1 = (W2.alloc (.map #[] 0)).heap.size by simp]; exact heap_alloc_new _ _, (Below.heap_alloc _ _ _ (by simp)).trans (heap_alloc_new W2 _)⟩)
  have HB3 := Lib.hid (show Below W2.heap.size W2 w3 from by rw [hw3]; exact ((Below.refl _ _).alloc (Nat.le_refl _) _).alloc (by simp) _)
  clear hw3
  go_wp2_with fail
  refine (do_alloc HA3.out (by omega) (B := W2.heap.size) (by omega) (Nat.le_refl _) HB3.out.size).mono ?_
  rintro e w4 ⟨rfl, s, ha4, hb4, hs4⟩
  have HA4 := Lib.hid ha4
  have HB4 := Lib.hid (HB3.out.trans hb4)
  clear ha4 hb4
  go_wp2_with fail
  refine (do_store HA4.out (B := W2.heap.size) hs4 HB4.out.size).mono ?_
  rintro e w5 ⟨rfl, ha5, hb5⟩
  have HA5 := Lib.hid ha5
  have HB5 := Lib.hid (HB4.out.trans hb5)
  clear ha5 hb5
  go_wp2_with fail
  refine (do_load HA5.out).mono ?_
  rintro e w6 ⟨rfl, hb6⟩
  have HB6 := Lib.hid (HB5.out.trans (hb6.mono HB5.out.size))
  clear hb6
  have HX6 := Lib.hid ((HB6.out.block w1.heap.size hwl).trans HX2.out)
  have x0 : w6.cell? ⟨w1.heap.size, 0, none⟩ = some (.int .i64 3) := cell_of1' HX6.out 0
  have x1 : w6.cell? ⟨w1.heap.size, 1, none⟩ = some (.int .u64 2) := cell_of1' HX6.out 1
  have x2 : w6.cell? ⟨w1.heap.size, 2, none⟩ = some (.int .i64 1) := cell_of1' HX6.out 2
  have x3 : w6.cell? ⟨w1.heap.size, 3, none⟩ = some (.int .u64 0) := cell_of1' HX6.out 3
  have x4 : w6.cell? ⟨w1.heap.size, 4, none⟩ = some (.int .u64 7) := cell_of1' HX6.out 4
  have HBZ := Lib.hid (HBY.out.trans (HB6.out.mono HBY.out.size))
  go_wp2_with fail
  refine (HWR.out _).mono ?_
  rintro e w7 ⟨rfl, hb7⟩
  have HB7 := Lib.hid (HBZ.out.trans (hb7.mono HBZ.out.size))
  clear hb7 x0 x1 x2 x3 x4
  go_wp2_with fail
  refine (HTX.out _ HB7.out).mono ?_
  rintro e w8 ⟨rfl, hb8⟩
  have HB8 := Lib.hid (HB7.out.trans (hb8.mono HB7.out.size))
  clear hb8
  go_wp2_with fail
  go_ret
  exact ⟨rfl, HB8.out⟩
end Go.Proofs.YtdibkhddhgaghaaDoor.Ac
