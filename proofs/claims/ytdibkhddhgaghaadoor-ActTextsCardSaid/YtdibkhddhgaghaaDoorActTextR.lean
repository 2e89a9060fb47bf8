/- The reference's Text: the walk. -/
import Derived.Outline
import Derived.Test.YtdibkhddhgaghaaDoorActText
namespace Go.Proofs.YtdibkhddhgaghaaDoor.Ac
open Go.RowKit
set_option linter.unusedVariables false
set_option linter.unusedSimpArgs false
set_option maxRecDepth 100000 in
set_option maxHeartbeats 32000000 in
theorem rtext_any (w : World) (x : ActL) (hx : Rng x) (hlo : -9223372036854775808 ≤ x.cell) : Calls Tryd.prog 12 #[encA x] w fun e w' => e = .returned (.string (ba (textA x))) ∧ Below w.heap.size w w' := by
  have HR := Lib.hid (fun W => rright_any W x)
  have HTX := Lib.hid (show textA x = if rightA x then Tx.jn 32 (partsA x) else [] from rfl)
  have hrc := @right_cell x
  have hrk := @right_kind x
  obtain ⟨rx, hrx⟩ : ∃ r, rightA x = r := ⟨_, rfl⟩
  rw [hrx] at HR HTX hrc hrk
  clear hrx
  obtain ⟨rb, rc, ro, rn⟩ := hx
  obtain ⟨k, b, c, o, n⟩ := x
  unfold encA cellsA at HR ⊢
  dsimp only at HR rb rc ro rn hrc hrk hlo ⊢
  have HC0 := Lib.hid (show ∀ W, Below (w.heap.size + 1) (w.alloc (.cells #[.int .i64 k, .int .u64 b, .int .i64 c, .int .u64 o, .int .u64 n] 24)) W → W.heap[w.heap.size]? = some (.cells #[.int .i64 k, .int .u64 b, .int .i64 c, .int .u64 o, .int .u64 n] 24 (0, 0)) from fun W hW => (hW.block w.heap.size (by omega)).trans (heap_alloc_new w _))
  have HBL := Lib.hid (show ∀ W, Below (w.heap.size + 1) (w.alloc (.cells #[.int .i64 k, .int .u64 b, .int .i64 c, .int .u64 o, .int .u64 n] 24)) W → Below w.heap.size w W from fun W hW => ((Below.refl _ _).alloc (Nat.le_refl _) _).trans (hW.mono (by omega)))
  have HB0 := Lib.hid (Below.refl (w.heap.size + 1) (w.alloc (.cells #[.int .i64 k, .int .u64 b, .int .i64 c, .int .u64 o, .int .u64 n] 24)))
  cases rx with
  | false =>
    go_enter Tryd.func12, Tryd.ntmps12
    go_wp2_with fail
    refine (HR.out _).mono ?_
    rintro e w1 ⟨rfl, hb⟩
    have HB := Lib.hid (HB0.out.trans (hb.mono (by simp)))
    clear hb
    go_wp2_with fail
    go_ret
    exact ⟨by rw [HTX.out]; rfl, HBL.out _ HB.out⟩
  | true =>
  have hc := hrc rfl
  have hk := hrk rfl
  clear hrc hrk
  have hzb := dg_len rb.1 rb.2
  have hzo := dg_len ro.1 ro.2
  have hzn := dg_len rn.1 rn.2
  have hzc := dg_len hc (by omega)
  have HSB := Lib.hid (fun (W : World) => show Calls Tryd.prog 50 #[.int .u64 b] W fun e w' => e = .returned (.string (ba (dg b))) ∧ Below W.heap.size W w' from by
    have := DgT.show_any b.toNat (by omega) W
    rw [Int.toNat_of_nonneg rb.1] at this
    exact this)
  have HSO := Lib.hid (fun (W : World) => show Calls Tryd.prog 50 #[.int .u64 o] W fun e w' => e = .returned (.string (ba (dg o))) ∧ Below W.heap.size W w' from by
    have := DgT.show_any o.toNat (by omega) W
    rw [Int.toNat_of_nonneg ro.1] at this
    exact this)
  have HSN := Lib.hid (fun (W : World) => show Calls Tryd.prog 50 #[.int .u64 n] W fun e w' => e = .returned (.string (ba (dg n))) ∧ Below W.heap.size W w' from by
    have := DgT.show_any n.toNat (by omega) W
    rw [Int.toNat_of_nonneg rn.1] at this
    exact this)
  have HSC := Lib.hid (fun (W : World) => show Calls Tryd.prog 51 #[.int .i64 c] W fun e w' => e = .returned (.string (ba (dg c))) ∧ Below W.heap.size W w' from by
    have := DgT.print_any c (by omega) (by omega) W
    rw [itoa_dg hc] at this
    exact this)
  rcases hk with rfl | rfl | rfl | rfl | rfl | rfl | rfl
  · have HWK := Lib.hid (fun (W : World) => show Calls Tryd.prog 49 #[.int .i64 0] W fun e w' => e = .returned (.string (ba (kw 0))) ∧ Below W.heap.size W w' from word_any W 0 (by decide))
    have HPT := Lib.hid (show partsA ⟨0, b, c, o, n⟩ = [kw 0] from rfl)
    have hzk := kw_len 0
    obtain ⟨d0, hd0⟩ : ∃ x, x = ba (kw 0) := ⟨_, rfl⟩
    have z0 : d0.size ≤ 20 := by rw [hd0, ba_size]; exact hzk
    rw [← hd0] at HWK
    obtain ⟨Db, hdb⟩ : ∃ x, x = ba (dg b) := ⟨_, rfl⟩
    have zb : Db.size ≤ 20 := by rw [hdb, ba_size]; exact hzb
    rw [← hdb] at HSB
    obtain ⟨Dc, hdc⟩ : ∃ x, x = ba (dg c) := ⟨_, rfl⟩
    have zc : Dc.size ≤ 20 := by rw [hdc, ba_size]; exact hzc
    rw [← hdc] at HSC
    obtain ⟨Do, hdo⟩ : ∃ x, x = ba (dg o) := ⟨_, rfl⟩
    have zo : Do.size ≤ 20 := by rw [hdo, ba_size]; exact hzo
    rw [← hdo] at HSO
    obtain ⟨Dn, hdn⟩ : ∃ x, x = ba (dg n) := ⟨_, rfl⟩
    have zn : Dn.size ≤ 20 := by rw [hdn, ba_size]; exact hzn
    rw [← hdn] at HSN
    have HTE := Lib.hid (show d0 = ba (textA ⟨0, b, c, o, n⟩) from by
      rw [HTX.out, if_pos rfl, HPT.out, hd0]
      apply WideShapes.bytes_inj
      simp [ByteArray.data_append, ba, Tx.jn])
    clear hd0 hdb hdc hdo hdn hzb hzc hzo hzn hzk
    clear z0 zb zc zo zn
    go_enter Tryd.func12, Tryd.ntmps12
    go_wp2_with fail
    refine (HR.out _).mono ?_
    rintro e W1 ⟨rfl, hb⟩
    have HW1 := Lib.hid (HB0.out.trans (hb.mono (by simp)))
    clear hb
    have k0 : W1.cell? ⟨w.heap.size, 0, none⟩ = some (.int .i64 0) := cell_of1' (HC0.out W1 HW1.out) 0
    have k1 : W1.cell? ⟨w.heap.size, 1, none⟩ = some (.int .u64 b) := cell_of1' (HC0.out W1 HW1.out) 1
    have k2 : W1.cell? ⟨w.heap.size, 2, none⟩ = some (.int .i64 c) := cell_of1' (HC0.out W1 HW1.out) 2
    have k3 : W1.cell? ⟨w.heap.size, 3, none⟩ = some (.int .u64 o) := cell_of1' (HC0.out W1 HW1.out) 3
    have k4 : W1.cell? ⟨w.heap.size, 4, none⟩ = some (.int .u64 n) := cell_of1' (HC0.out W1 HW1.out) 4
    go_wp2_with fail
    clear k0 k1 k2 k3 k4
    refine (HWK.out _).mono ?_
    rintro e W2 ⟨rfl, hb⟩
    have HW2 := Lib.hid (HW1.out.trans (hb.mono (by have := HW1.out.size; simpa using this)))
    clear hb
    have k0 : W2.cell? ⟨w.heap.size, 0, none⟩ = some (.int .i64 0) := cell_of1' (HC0.out W2 HW2.out) 0
    have k1 : W2.cell? ⟨w.heap.size, 1, none⟩ = some (.int .u64 b) := cell_of1' (HC0.out W2 HW2.out) 1
    have k2 : W2.cell? ⟨w.heap.size, 2, none⟩ = some (.int .i64 c) := cell_of1' (HC0.out W2 HW2.out) 2
    have k3 : W2.cell? ⟨w.heap.size, 3, none⟩ = some (.int .u64 o) := cell_of1' (HC0.out W2 HW2.out) 3
    have k4 : W2.cell? ⟨w.heap.size, 4, none⟩ = some (.int .u64 n) := cell_of1' (HC0.out W2 HW2.out) 4
    go_wp2_with fail

    go_ret
    exact ⟨by rw [← HTE.out]; rfl, HBL.out _ HW2.out⟩
  · have HWK := Lib.hid (fun (W : World) => show Calls Tryd.prog 49 #[.int .i64 1] W fun e w' => e = .returned (.string (ba (kw 1))) ∧ Below W.heap.size W w' from word_any W 1 (by decide))
    have HPT := Lib.hid (show partsA ⟨1, b, c, o, n⟩ = [kw 1, dg b, dg c] from rfl)
    have hzk := kw_len 1
    obtain ⟨d0, hd0⟩ : ∃ x, x = ba (kw 1) := ⟨_, rfl⟩
    have z0 : d0.size ≤ 20 := by rw [hd0, ba_size]; exact hzk
    rw [← hd0] at HWK
    obtain ⟨Db, hdb⟩ : ∃ x, x = ba (dg b) := ⟨_, rfl⟩
    have zb : Db.size ≤ 20 := by rw [hdb, ba_size]; exact hzb
    rw [← hdb] at HSB
    obtain ⟨Dc, hdc⟩ : ∃ x, x = ba (dg c) := ⟨_, rfl⟩
    have zc : Dc.size ≤ 20 := by rw [hdc, ba_size]; exact hzc
    rw [← hdc] at HSC
    obtain ⟨Do, hdo⟩ : ∃ x, x = ba (dg o) := ⟨_, rfl⟩
    have zo : Do.size ≤ 20 := by rw [hdo, ba_size]; exact hzo
    rw [← hdo] at HSO
    obtain ⟨Dn, hdn⟩ : ∃ x, x = ba (dg n) := ⟨_, rfl⟩
    have zn : Dn.size ≤ 20 := by rw [hdn, ba_size]; exact hzn
    rw [← hdn] at HSN
    have HTE := Lib.hid (show ((((d0 ++ ⟨#[32]⟩) ++ Db) ++ ⟨#[32]⟩) ++ Dc) = ba (textA ⟨1, b, c, o, n⟩) from by
      rw [HTX.out, if_pos rfl, HPT.out, hd0, hdb, hdc]
      apply WideShapes.bytes_inj
      simp [ByteArray.data_append, ba, Tx.jn])
    clear hd0 hdb hdc hdo hdn hzb hzc hzo hzn hzk
    have n0 : ¬ 9223372036854775807 < d0.size + 1 := by omega
    have n1 : ¬ 9223372036854775807 < d0.size + 1 + Db.size := by omega
    have n2 : ¬ 9223372036854775807 < d0.size + 1 + Db.size + 1 := by omega
    have n3 : ¬ 9223372036854775807 < d0.size + 1 + Db.size + 1 + Dc.size := by omega
    clear z0 zb zc zo zn
    go_enter Tryd.func12, Tryd.ntmps12
    go_wp2_with fail
    refine (HR.out _).mono ?_
    rintro e W1 ⟨rfl, hb⟩
    have HW1 := Lib.hid (HB0.out.trans (hb.mono (by simp)))
    clear hb
    have k0 : W1.cell? ⟨w.heap.size, 0, none⟩ = some (.int .i64 1) := cell_of1' (HC0.out W1 HW1.out) 0
    have k1 : W1.cell? ⟨w.heap.size, 1, none⟩ = some (.int .u64 b) := cell_of1' (HC0.out W1 HW1.out) 1
    have k2 : W1.cell? ⟨w.heap.size, 2, none⟩ = some (.int .i64 c) := cell_of1' (HC0.out W1 HW1.out) 2
    have k3 : W1.cell? ⟨w.heap.size, 3, none⟩ = some (.int .u64 o) := cell_of1' (HC0.out W1 HW1.out) 3
    have k4 : W1.cell? ⟨w.heap.size, 4, none⟩ = some (.int .u64 n) := cell_of1' (HC0.out W1 HW1.out) 4
    go_wp2_with fail
    clear k0 k1 k2 k3 k4
    refine (HWK.out _).mono ?_
    rintro e W2 ⟨rfl, hb⟩
    have HW2 := Lib.hid (HW1.out.trans (hb.mono (by have := HW1.out.size; simpa using this)))
    clear hb
    have k0 : W2.cell? ⟨w.heap.size, 0, none⟩ = some (.int .i64 1) := cell_of1' (HC0.out W2 HW2.out) 0
    have k1 : W2.cell? ⟨w.heap.size, 1, none⟩ = some (.int .u64 b) := cell_of1' (HC0.out W2 HW2.out) 1
    have k2 : W2.cell? ⟨w.heap.size, 2, none⟩ = some (.int .i64 c) := cell_of1' (HC0.out W2 HW2.out) 2
    have k3 : W2.cell? ⟨w.heap.size, 3, none⟩ = some (.int .u64 o) := cell_of1' (HC0.out W2 HW2.out) 3
    have k4 : W2.cell? ⟨w.heap.size, 4, none⟩ = some (.int .u64 n) := cell_of1' (HC0.out W2 HW2.out) 4
    go_wp2_with fail
    clear k0 k1 k2 k3 k4
    refine (HSB.out _).mono ?_
    rintro e W3 ⟨rfl, hb⟩
    have HW3 := Lib.hid (HW2.out.trans (hb.mono (by have := HW2.out.size; simpa using this)))
    clear hb
    have k0 : W3.cell? ⟨w.heap.size, 0, none⟩ = some (.int .i64 1) := cell_of1' (HC0.out W3 HW3.out) 0
    have k1 : W3.cell? ⟨w.heap.size, 1, none⟩ = some (.int .u64 b) := cell_of1' (HC0.out W3 HW3.out) 1
    have k2 : W3.cell? ⟨w.heap.size, 2, none⟩ = some (.int .i64 c) := cell_of1' (HC0.out W3 HW3.out) 2
    have k3 : W3.cell? ⟨w.heap.size, 3, none⟩ = some (.int .u64 o) := cell_of1' (HC0.out W3 HW3.out) 3
    have k4 : W3.cell? ⟨w.heap.size, 4, none⟩ = some (.int .u64 n) := cell_of1' (HC0.out W3 HW3.out) 4
    go_wp2_with fail
    clear k0 k1 k2 k3 k4
    refine (HSC.out _).mono ?_
    rintro e W4 ⟨rfl, hb⟩
    have HW4 := Lib.hid (HW3.out.trans (hb.mono (by have := HW3.out.size; simpa using this)))
    clear hb
    have k0 : W4.cell? ⟨w.heap.size, 0, none⟩ = some (.int .i64 1) := cell_of1' (HC0.out W4 HW4.out) 0
    have k1 : W4.cell? ⟨w.heap.size, 1, none⟩ = some (.int .u64 b) := cell_of1' (HC0.out W4 HW4.out) 1
    have k2 : W4.cell? ⟨w.heap.size, 2, none⟩ = some (.int .i64 c) := cell_of1' (HC0.out W4 HW4.out) 2
    have k3 : W4.cell? ⟨w.heap.size, 3, none⟩ = some (.int .u64 o) := cell_of1' (HC0.out W4 HW4.out) 3
    have k4 : W4.cell? ⟨w.heap.size, 4, none⟩ = some (.int .u64 n) := cell_of1' (HC0.out W4 HW4.out) 4
    go_wp2_with fail

    go_ret
    exact ⟨by rw [← HTE.out]; rfl, HBL.out _ HW4.out⟩
  · have HWK := Lib.hid (fun (W : World) => show Calls Tryd.prog 49 #[.int .i64 2] W fun e w' => e = .returned (.string (ba (kw 2))) ∧ Below W.heap.size W w' from word_any W 2 (by decide))
    have HPT := Lib.hid (show partsA ⟨2, b, c, o, n⟩ = [kw 2, dg b, dg c, dg n] from rfl)
    have hzk := kw_len 2
    obtain ⟨d0, hd0⟩ : ∃ x, x = ba (kw 2) := ⟨_, rfl⟩
    have z0 : d0.size ≤ 20 := by rw [hd0, ba_size]; exact hzk
    rw [← hd0] at HWK
    obtain ⟨Db, hdb⟩ : ∃ x, x = ba (dg b) := ⟨_, rfl⟩
    have zb : Db.size ≤ 20 := by rw [hdb, ba_size]; exact hzb
    rw [← hdb] at HSB
    obtain ⟨Dc, hdc⟩ : ∃ x, x = ba (dg c) := ⟨_, rfl⟩
    have zc : Dc.size ≤ 20 := by rw [hdc, ba_size]; exact hzc
    rw [← hdc] at HSC
    obtain ⟨Do, hdo⟩ : ∃ x, x = ba (dg o) := ⟨_, rfl⟩
    have zo : Do.size ≤ 20 := by rw [hdo, ba_size]; exact hzo
    rw [← hdo] at HSO
    obtain ⟨Dn, hdn⟩ : ∃ x, x = ba (dg n) := ⟨_, rfl⟩
    have zn : Dn.size ≤ 20 := by rw [hdn, ba_size]; exact hzn
    rw [← hdn] at HSN
    have HTE := Lib.hid (show ((((((d0 ++ ⟨#[32]⟩) ++ Db) ++ ⟨#[32]⟩) ++ Dc) ++ ⟨#[32]⟩) ++ Dn) = ba (textA ⟨2, b, c, o, n⟩) from by
      rw [HTX.out, if_pos rfl, HPT.out, hd0, hdb, hdc, hdn]
      apply WideShapes.bytes_inj
      simp [ByteArray.data_append, ba, Tx.jn])
    clear hd0 hdb hdc hdo hdn hzb hzc hzo hzn hzk
    have n0 : ¬ 9223372036854775807 < d0.size + 1 := by omega
    have n1 : ¬ 9223372036854775807 < d0.size + 1 + Db.size := by omega
    have n2 : ¬ 9223372036854775807 < d0.size + 1 + Db.size + 1 := by omega
    have n3 : ¬ 9223372036854775807 < d0.size + 1 + Db.size + 1 + Dc.size := by omega
    have n4 : ¬ 9223372036854775807 < d0.size + 1 + Db.size + 1 + Dc.size + 1 := by omega
    have n5 : ¬ 9223372036854775807 < d0.size + 1 + Db.size + 1 + Dc.size + 1 + Dn.size := by omega
    clear z0 zb zc zo zn
    go_enter Tryd.func12, Tryd.ntmps12
    go_wp2_with fail
    refine (HR.out _).mono ?_
    rintro e W1 ⟨rfl, hb⟩
    have HW1 := Lib.hid (HB0.out.trans (hb.mono (by simp)))
    clear hb
    have k0 : W1.cell? ⟨w.heap.size, 0, none⟩ = some (.int .i64 2) := cell_of1' (HC0.out W1 HW1.out) 0
    have k1 : W1.cell? ⟨w.heap.size, 1, none⟩ = some (.int .u64 b) := cell_of1' (HC0.out W1 HW1.out) 1
    have k2 : W1.cell? ⟨w.heap.size, 2, none⟩ = some (.int .i64 c) := cell_of1' (HC0.out W1 HW1.out) 2
    have k3 : W1.cell? ⟨w.heap.size, 3, none⟩ = some (.int .u64 o) := cell_of1' (HC0.out W1 HW1.out) 3
    have k4 : W1.cell? ⟨w.heap.size, 4, none⟩ = some (.int .u64 n) := cell_of1' (HC0.out W1 HW1.out) 4
    go_wp2_with fail
    clear k0 k1 k2 k3 k4
    refine (HWK.out _).mono ?_
    rintro e W2 ⟨rfl, hb⟩
    have HW2 := Lib.hid (HW1.out.trans (hb.mono (by have := HW1.out.size; simpa using this)))
    clear hb
    have k0 : W2.cell? ⟨w.heap.size, 0, none⟩ = some (.int .i64 2) := cell_of1' (HC0.out W2 HW2.out) 0
    have k1 : W2.cell? ⟨w.heap.size, 1, none⟩ = some (.int .u64 b) := cell_of1' (HC0.out W2 HW2.out) 1
    have k2 : W2.cell? ⟨w.heap.size, 2, none⟩ = some (.int .i64 c) := cell_of1' (HC0.out W2 HW2.out) 2
    have k3 : W2.cell? ⟨w.heap.size, 3, none⟩ = some (.int .u64 o) := cell_of1' (HC0.out W2 HW2.out) 3
    have k4 : W2.cell? ⟨w.heap.size, 4, none⟩ = some (.int .u64 n) := cell_of1' (HC0.out W2 HW2.out) 4
    go_wp2_with fail
    clear k0 k1 k2 k3 k4
    refine (HSB.out _).mono ?_
    rintro e W3 ⟨rfl, hb⟩
    have HW3 := Lib.hid (HW2.out.trans (hb.mono (by have := HW2.out.size; simpa using this)))
    clear hb
    have k0 : W3.cell? ⟨w.heap.size, 0, none⟩ = some (.int .i64 2) := cell_of1' (HC0.out W3 HW3.out) 0
    have k1 : W3.cell? ⟨w.heap.size, 1, none⟩ = some (.int .u64 b) := cell_of1' (HC0.out W3 HW3.out) 1
    have k2 : W3.cell? ⟨w.heap.size, 2, none⟩ = some (.int .i64 c) := cell_of1' (HC0.out W3 HW3.out) 2
    have k3 : W3.cell? ⟨w.heap.size, 3, none⟩ = some (.int .u64 o) := cell_of1' (HC0.out W3 HW3.out) 3
    have k4 : W3.cell? ⟨w.heap.size, 4, none⟩ = some (.int .u64 n) := cell_of1' (HC0.out W3 HW3.out) 4
    go_wp2_with fail
    clear k0 k1 k2 k3 k4
    refine (HSC.out _).mono ?_
    rintro e W4 ⟨rfl, hb⟩
    have HW4 := Lib.hid (HW3.out.trans (hb.mono (by have := HW3.out.size; simpa using this)))
    clear hb
    have k0 : W4.cell? ⟨w.heap.size, 0, none⟩ = some (.int .i64 2) := cell_of1' (HC0.out W4 HW4.out) 0
    have k1 : W4.cell? ⟨w.heap.size, 1, none⟩ = some (.int .u64 b) := cell_of1' (HC0.out W4 HW4.out) 1
    have k2 : W4.cell? ⟨w.heap.size, 2, none⟩ = some (.int .i64 c) := cell_of1' (HC0.out W4 HW4.out) 2
    have k3 : W4.cell? ⟨w.heap.size, 3, none⟩ = some (.int .u64 o) := cell_of1' (HC0.out W4 HW4.out) 3
    have k4 : W4.cell? ⟨w.heap.size, 4, none⟩ = some (.int .u64 n) := cell_of1' (HC0.out W4 HW4.out) 4
    go_wp2_with fail
    clear k0 k1 k2 k3 k4
    refine (HSN.out _).mono ?_
    rintro e W5 ⟨rfl, hb⟩
    have HW5 := Lib.hid (HW4.out.trans (hb.mono (by have := HW4.out.size; simpa using this)))
    clear hb
    have k0 : W5.cell? ⟨w.heap.size, 0, none⟩ = some (.int .i64 2) := cell_of1' (HC0.out W5 HW5.out) 0
    have k1 : W5.cell? ⟨w.heap.size, 1, none⟩ = some (.int .u64 b) := cell_of1' (HC0.out W5 HW5.out) 1
    have k2 : W5.cell? ⟨w.heap.size, 2, none⟩ = some (.int .i64 c) := cell_of1' (HC0.out W5 HW5.out) 2
    have k3 : W5.cell? ⟨w.heap.size, 3, none⟩ = some (.int .u64 o) := cell_of1' (HC0.out W5 HW5.out) 3
    have k4 : W5.cell? ⟨w.heap.size, 4, none⟩ = some (.int .u64 n) := cell_of1' (HC0.out W5 HW5.out) 4
    go_wp2_with fail

    go_ret
    exact ⟨by rw [← HTE.out]; rfl, HBL.out _ HW5.out⟩
  · have HWK := Lib.hid (fun (W : World) => show Calls Tryd.prog 49 #[.int .i64 3] W fun e w' => e = .returned (.string (ba (kw 3))) ∧ Below W.heap.size W w' from word_any W 3 (by decide))
    have HPT := Lib.hid (show partsA ⟨3, b, c, o, n⟩ = [kw 3, dg b, dg c, dg o, dg n] from rfl)
    have hzk := kw_len 3
    obtain ⟨d0, hd0⟩ : ∃ x, x = ba (kw 3) := ⟨_, rfl⟩
    have z0 : d0.size ≤ 20 := by rw [hd0, ba_size]; exact hzk
    rw [← hd0] at HWK
    obtain ⟨Db, hdb⟩ : ∃ x, x = ba (dg b) := ⟨_, rfl⟩
    have zb : Db.size ≤ 20 := by rw [hdb, ba_size]; exact hzb
    rw [← hdb] at HSB
    obtain ⟨Dc, hdc⟩ : ∃ x, x = ba (dg c) := ⟨_, rfl⟩
    have zc : Dc.size ≤ 20 := by rw [hdc, ba_size]; exact hzc
    rw [← hdc] at HSC
    obtain ⟨Do, hdo⟩ : ∃ x, x = ba (dg o) := ⟨_, rfl⟩
    have zo : Do.size ≤ 20 := by rw [hdo, ba_size]; exact hzo
    rw [← hdo] at HSO
    obtain ⟨Dn, hdn⟩ : ∃ x, x = ba (dg n) := ⟨_, rfl⟩
    have zn : Dn.size ≤ 20 := by rw [hdn, ba_size]; exact hzn
    rw [← hdn] at HSN
    have HTE := Lib.hid (show ((((((((d0 ++ ⟨#[32]⟩) ++ Db) ++ ⟨#[32]⟩) ++ Dc) ++ ⟨#[32]⟩) ++ Do) ++ ⟨#[32]⟩) ++ Dn) = ba (textA ⟨3, b, c, o, n⟩) from by
      rw [HTX.out, if_pos rfl, HPT.out, hd0, hdb, hdc, hdo, hdn]
      apply WideShapes.bytes_inj
      simp [ByteArray.data_append, ba, Tx.jn])
    clear hd0 hdb hdc hdo hdn hzb hzc hzo hzn hzk
    have n0 : ¬ 9223372036854775807 < d0.size + 1 := by omega
    have n1 : ¬ 9223372036854775807 < d0.size + 1 + Db.size := by omega
    have n2 : ¬ 9223372036854775807 < d0.size + 1 + Db.size + 1 := by omega
    have n3 : ¬ 9223372036854775807 < d0.size + 1 + Db.size + 1 + Dc.size := by omega
    have n4 : ¬ 9223372036854775807 < d0.size + 1 + Db.size + 1 + Dc.size + 1 := by omega
    have n5 : ¬ 9223372036854775807 < d0.size + 1 + Db.size + 1 + Dc.size + 1 + Do.size := by omega
    have n6 : ¬ 9223372036854775807 < d0.size + 1 + Db.size + 1 + Dc.size + 1 + Do.size + 1 := by omega
    have n7 : ¬ 9223372036854775807 < d0.size + 1 + Db.size + 1 + Dc.size + 1 + Do.size + 1 + Dn.size := by omega
    clear z0 zb zc zo zn
    go_enter Tryd.func12, Tryd.ntmps12
    go_wp2_with fail
    refine (HR.out _).mono ?_
    rintro e W1 ⟨rfl, hb⟩
    have HW1 := Lib.hid (HB0.out.trans (hb.mono (by simp)))
    clear hb
    have k0 : W1.cell? ⟨w.heap.size, 0, none⟩ = some (.int .i64 3) := cell_of1' (HC0.out W1 HW1.out) 0
    have k1 : W1.cell? ⟨w.heap.size, 1, none⟩ = some (.int .u64 b) := cell_of1' (HC0.out W1 HW1.out) 1
    have k2 : W1.cell? ⟨w.heap.size, 2, none⟩ = some (.int .i64 c) := cell_of1' (HC0.out W1 HW1.out) 2
    have k3 : W1.cell? ⟨w.heap.size, 3, none⟩ = some (.int .u64 o) := cell_of1' (HC0.out W1 HW1.out) 3
    have k4 : W1.cell? ⟨w.heap.size, 4, none⟩ = some (.int .u64 n) := cell_of1' (HC0.out W1 HW1.out) 4
    go_wp2_with fail
    clear k0 k1 k2 k3 k4
    refine (HWK.out _).mono ?_
    rintro e W2 ⟨rfl, hb⟩
    have HW2 := Lib.hid (HW1.out.trans (hb.mono (by have := HW1.out.size; simpa using this)))
    clear hb
    have k0 : W2.cell? ⟨w.heap.size, 0, none⟩ = some (.int .i64 3) := cell_of1' (HC0.out W2 HW2.out) 0
    have k1 : W2.cell? ⟨w.heap.size, 1, none⟩ = some (.int .u64 b) := cell_of1' (HC0.out W2 HW2.out) 1
    have k2 : W2.cell? ⟨w.heap.size, 2, none⟩ = some (.int .i64 c) := cell_of1' (HC0.out W2 HW2.out) 2
    have k3 : W2.cell? ⟨w.heap.size, 3, none⟩ = some (.int .u64 o) := cell_of1' (HC0.out W2 HW2.out) 3
    have k4 : W2.cell? ⟨w.heap.size, 4, none⟩ = some (.int .u64 n) := cell_of1' (HC0.out W2 HW2.out) 4
    go_wp2_with fail
    clear k0 k1 k2 k3 k4
    refine (HSB.out _).mono ?_
    rintro e W3 ⟨rfl, hb⟩
    have HW3 := Lib.hid (HW2.out.trans (hb.mono (by have := HW2.out.size; simpa using this)))
    clear hb
    have k0 : W3.cell? ⟨w.heap.size, 0, none⟩ = some (.int .i64 3) := cell_of1' (HC0.out W3 HW3.out) 0
    have k1 : W3.cell? ⟨w.heap.size, 1, none⟩ = some (.int .u64 b) := cell_of1' (HC0.out W3 HW3.out) 1
    have k2 : W3.cell? ⟨w.heap.size, 2, none⟩ = some (.int .i64 c) := cell_of1' (HC0.out W3 HW3.out) 2
    have k3 : W3.cell? ⟨w.heap.size, 3, none⟩ = some (.int .u64 o) := cell_of1' (HC0.out W3 HW3.out) 3
    have k4 : W3.cell? ⟨w.heap.size, 4, none⟩ = some (.int .u64 n) := cell_of1' (HC0.out W3 HW3.out) 4
    go_wp2_with fail
    clear k0 k1 k2 k3 k4
    refine (HSC.out _).mono ?_
    rintro e W4 ⟨rfl, hb⟩
    have HW4 := Lib.hid (HW3.out.trans (hb.mono (by have := HW3.out.size; simpa using this)))
    clear hb
    have k0 : W4.cell? ⟨w.heap.size, 0, none⟩ = some (.int .i64 3) := cell_of1' (HC0.out W4 HW4.out) 0
    have k1 : W4.cell? ⟨w.heap.size, 1, none⟩ = some (.int .u64 b) := cell_of1' (HC0.out W4 HW4.out) 1
    have k2 : W4.cell? ⟨w.heap.size, 2, none⟩ = some (.int .i64 c) := cell_of1' (HC0.out W4 HW4.out) 2
    have k3 : W4.cell? ⟨w.heap.size, 3, none⟩ = some (.int .u64 o) := cell_of1' (HC0.out W4 HW4.out) 3
    have k4 : W4.cell? ⟨w.heap.size, 4, none⟩ = some (.int .u64 n) := cell_of1' (HC0.out W4 HW4.out) 4
    go_wp2_with fail
    clear k0 k1 k2 k3 k4
    refine (HSO.out _).mono ?_
    rintro e W5 ⟨rfl, hb⟩
    have HW5 := Lib.hid (HW4.out.trans (hb.mono (by have := HW4.out.size; simpa using this)))
    clear hb
    have k0 : W5.cell? ⟨w.heap.size, 0, none⟩ = some (.int .i64 3) := cell_of1' (HC0.out W5 HW5.out) 0
    have k1 : W5.cell? ⟨w.heap.size, 1, none⟩ = some (.int .u64 b) := cell_of1' (HC0.out W5 HW5.out) 1
    have k2 : W5.cell? ⟨w.heap.size, 2, none⟩ = some (.int .i64 c) := cell_of1' (HC0.out W5 HW5.out) 2
    have k3 : W5.cell? ⟨w.heap.size, 3, none⟩ = some (.int .u64 o) := cell_of1' (HC0.out W5 HW5.out) 3
    have k4 : W5.cell? ⟨w.heap.size, 4, none⟩ = some (.int .u64 n) := cell_of1' (HC0.out W5 HW5.out) 4
    go_wp2_with fail
    clear k0 k1 k2 k3 k4
    refine (HSN.out _).mono ?_
    rintro e W6 ⟨rfl, hb⟩
    have HW6 := Lib.hid (HW5.out.trans (hb.mono (by have := HW5.out.size; simpa using this)))
    clear hb
    have k0 : W6.cell? ⟨w.heap.size, 0, none⟩ = some (.int .i64 3) := cell_of1' (HC0.out W6 HW6.out) 0
    have k1 : W6.cell? ⟨w.heap.size, 1, none⟩ = some (.int .u64 b) := cell_of1' (HC0.out W6 HW6.out) 1
    have k2 : W6.cell? ⟨w.heap.size, 2, none⟩ = some (.int .i64 c) := cell_of1' (HC0.out W6 HW6.out) 2
    have k3 : W6.cell? ⟨w.heap.size, 3, none⟩ = some (.int .u64 o) := cell_of1' (HC0.out W6 HW6.out) 3
    have k4 : W6.cell? ⟨w.heap.size, 4, none⟩ = some (.int .u64 n) := cell_of1' (HC0.out W6 HW6.out) 4
    go_wp2_with fail

    go_ret
    exact ⟨by rw [← HTE.out]; rfl, HBL.out _ HW6.out⟩
  · have HWK := Lib.hid (fun (W : World) => show Calls Tryd.prog 49 #[.int .i64 4] W fun e w' => e = .returned (.string (ba (kw 4))) ∧ Below W.heap.size W w' from word_any W 4 (by decide))
    have HPT := Lib.hid (show partsA ⟨4, b, c, o, n⟩ = [kw 4, dg b, dg c, dg n] from rfl)
    have hzk := kw_len 4
    obtain ⟨d0, hd0⟩ : ∃ x, x = ba (kw 4) := ⟨_, rfl⟩
    have z0 : d0.size ≤ 20 := by rw [hd0, ba_size]; exact hzk
    rw [← hd0] at HWK
    obtain ⟨Db, hdb⟩ : ∃ x, x = ba (dg b) := ⟨_, rfl⟩
    have zb : Db.size ≤ 20 := by rw [hdb, ba_size]; exact hzb
    rw [← hdb] at HSB
    obtain ⟨Dc, hdc⟩ : ∃ x, x = ba (dg c) := ⟨_, rfl⟩
    have zc : Dc.size ≤ 20 := by rw [hdc, ba_size]; exact hzc
    rw [← hdc] at HSC
    obtain ⟨Do, hdo⟩ : ∃ x, x = ba (dg o) := ⟨_, rfl⟩
    have zo : Do.size ≤ 20 := by rw [hdo, ba_size]; exact hzo
    rw [← hdo] at HSO
    obtain ⟨Dn, hdn⟩ : ∃ x, x = ba (dg n) := ⟨_, rfl⟩
    have zn : Dn.size ≤ 20 := by rw [hdn, ba_size]; exact hzn
    rw [← hdn] at HSN
    have HTE := Lib.hid (show ((((((d0 ++ ⟨#[32]⟩) ++ Db) ++ ⟨#[32]⟩) ++ Dc) ++ ⟨#[32]⟩) ++ Dn) = ba (textA ⟨4, b, c, o, n⟩) from by
      rw [HTX.out, if_pos rfl, HPT.out, hd0, hdb, hdc, hdn]
      apply WideShapes.bytes_inj
      simp [ByteArray.data_append, ba, Tx.jn])
    clear hd0 hdb hdc hdo hdn hzb hzc hzo hzn hzk
    have n0 : ¬ 9223372036854775807 < d0.size + 1 := by omega
    have n1 : ¬ 9223372036854775807 < d0.size + 1 + Db.size := by omega
    have n2 : ¬ 9223372036854775807 < d0.size + 1 + Db.size + 1 := by omega
    have n3 : ¬ 9223372036854775807 < d0.size + 1 + Db.size + 1 + Dc.size := by omega
    have n4 : ¬ 9223372036854775807 < d0.size + 1 + Db.size + 1 + Dc.size + 1 := by omega
    have n5 : ¬ 9223372036854775807 < d0.size + 1 + Db.size + 1 + Dc.size + 1 + Dn.size := by omega
    clear z0 zb zc zo zn
    go_enter Tryd.func12, Tryd.ntmps12
    go_wp2_with fail
    refine (HR.out _).mono ?_
    rintro e W1 ⟨rfl, hb⟩
    have HW1 := Lib.hid (HB0.out.trans (hb.mono (by simp)))
    clear hb
    have k0 : W1.cell? ⟨w.heap.size, 0, none⟩ = some (.int .i64 4) := cell_of1' (HC0.out W1 HW1.out) 0
    have k1 : W1.cell? ⟨w.heap.size, 1, none⟩ = some (.int .u64 b) := cell_of1' (HC0.out W1 HW1.out) 1
    have k2 : W1.cell? ⟨w.heap.size, 2, none⟩ = some (.int .i64 c) := cell_of1' (HC0.out W1 HW1.out) 2
    have k3 : W1.cell? ⟨w.heap.size, 3, none⟩ = some (.int .u64 o) := cell_of1' (HC0.out W1 HW1.out) 3
    have k4 : W1.cell? ⟨w.heap.size, 4, none⟩ = some (.int .u64 n) := cell_of1' (HC0.out W1 HW1.out) 4
    go_wp2_with fail
    clear k0 k1 k2 k3 k4
    refine (HWK.out _).mono ?_
    rintro e W2 ⟨rfl, hb⟩
    have HW2 := Lib.hid (HW1.out.trans (hb.mono (by have := HW1.out.size; simpa using this)))
    clear hb
    have k0 : W2.cell? ⟨w.heap.size, 0, none⟩ = some (.int .i64 4) := cell_of1' (HC0.out W2 HW2.out) 0
    have k1 : W2.cell? ⟨w.heap.size, 1, none⟩ = some (.int .u64 b) := cell_of1' (HC0.out W2 HW2.out) 1
    have k2 : W2.cell? ⟨w.heap.size, 2, none⟩ = some (.int .i64 c) := cell_of1' (HC0.out W2 HW2.out) 2
    have k3 : W2.cell? ⟨w.heap.size, 3, none⟩ = some (.int .u64 o) := cell_of1' (HC0.out W2 HW2.out) 3
    have k4 : W2.cell? ⟨w.heap.size, 4, none⟩ = some (.int .u64 n) := cell_of1' (HC0.out W2 HW2.out) 4
    go_wp2_with fail
    clear k0 k1 k2 k3 k4
    refine (HSB.out _).mono ?_
    rintro e W3 ⟨rfl, hb⟩
    have HW3 := Lib.hid (HW2.out.trans (hb.mono (by have := HW2.out.size; simpa using this)))
    clear hb
    have k0 : W3.cell? ⟨w.heap.size, 0, none⟩ = some (.int .i64 4) := cell_of1' (HC0.out W3 HW3.out) 0
    have k1 : W3.cell? ⟨w.heap.size, 1, none⟩ = some (.int .u64 b) := cell_of1' (HC0.out W3 HW3.out) 1
    have k2 : W3.cell? ⟨w.heap.size, 2, none⟩ = some (.int .i64 c) := cell_of1' (HC0.out W3 HW3.out) 2
    have k3 : W3.cell? ⟨w.heap.size, 3, none⟩ = some (.int .u64 o) := cell_of1' (HC0.out W3 HW3.out) 3
    have k4 : W3.cell? ⟨w.heap.size, 4, none⟩ = some (.int .u64 n) := cell_of1' (HC0.out W3 HW3.out) 4
    go_wp2_with fail
    clear k0 k1 k2 k3 k4
    refine (HSC.out _).mono ?_
    rintro e W4 ⟨rfl, hb⟩
    have HW4 := Lib.hid (HW3.out.trans (hb.mono (by have := HW3.out.size; simpa using this)))
    clear hb
    have k0 : W4.cell? ⟨w.heap.size, 0, none⟩ = some (.int .i64 4) := cell_of1' (HC0.out W4 HW4.out) 0
    have k1 : W4.cell? ⟨w.heap.size, 1, none⟩ = some (.int .u64 b) := cell_of1' (HC0.out W4 HW4.out) 1
    have k2 : W4.cell? ⟨w.heap.size, 2, none⟩ = some (.int .i64 c) := cell_of1' (HC0.out W4 HW4.out) 2
    have k3 : W4.cell? ⟨w.heap.size, 3, none⟩ = some (.int .u64 o) := cell_of1' (HC0.out W4 HW4.out) 3
    have k4 : W4.cell? ⟨w.heap.size, 4, none⟩ = some (.int .u64 n) := cell_of1' (HC0.out W4 HW4.out) 4
    go_wp2_with fail
    clear k0 k1 k2 k3 k4
    refine (HSN.out _).mono ?_
    rintro e W5 ⟨rfl, hb⟩
    have HW5 := Lib.hid (HW4.out.trans (hb.mono (by have := HW4.out.size; simpa using this)))
    clear hb
    have k0 : W5.cell? ⟨w.heap.size, 0, none⟩ = some (.int .i64 4) := cell_of1' (HC0.out W5 HW5.out) 0
    have k1 : W5.cell? ⟨w.heap.size, 1, none⟩ = some (.int .u64 b) := cell_of1' (HC0.out W5 HW5.out) 1
    have k2 : W5.cell? ⟨w.heap.size, 2, none⟩ = some (.int .i64 c) := cell_of1' (HC0.out W5 HW5.out) 2
    have k3 : W5.cell? ⟨w.heap.size, 3, none⟩ = some (.int .u64 o) := cell_of1' (HC0.out W5 HW5.out) 3
    have k4 : W5.cell? ⟨w.heap.size, 4, none⟩ = some (.int .u64 n) := cell_of1' (HC0.out W5 HW5.out) 4
    go_wp2_with fail

    go_ret
    exact ⟨by rw [← HTE.out]; rfl, HBL.out _ HW5.out⟩
  · have HWK := Lib.hid (fun (W : World) => show Calls Tryd.prog 49 #[.int .i64 5] W fun e w' => e = .returned (.string (ba (kw 5))) ∧ Below W.heap.size W w' from word_any W 5 (by decide))
    have HPT := Lib.hid (show partsA ⟨5, b, c, o, n⟩ = [kw 5, dg c] from rfl)
    have hzk := kw_len 5
    obtain ⟨d0, hd0⟩ : ∃ x, x = ba (kw 5) := ⟨_, rfl⟩
    have z0 : d0.size ≤ 20 := by rw [hd0, ba_size]; exact hzk
    rw [← hd0] at HWK
    obtain ⟨Db, hdb⟩ : ∃ x, x = ba (dg b) := ⟨_, rfl⟩
    have zb : Db.size ≤ 20 := by rw [hdb, ba_size]; exact hzb
    rw [← hdb] at HSB
    obtain ⟨Dc, hdc⟩ : ∃ x, x = ba (dg c) := ⟨_, rfl⟩
    have zc : Dc.size ≤ 20 := by rw [hdc, ba_size]; exact hzc
    rw [← hdc] at HSC
    obtain ⟨Do, hdo⟩ : ∃ x, x = ba (dg o) := ⟨_, rfl⟩
    have zo : Do.size ≤ 20 := by rw [hdo, ba_size]; exact hzo
    rw [← hdo] at HSO
    obtain ⟨Dn, hdn⟩ : ∃ x, x = ba (dg n) := ⟨_, rfl⟩
    have zn : Dn.size ≤ 20 := by rw [hdn, ba_size]; exact hzn
    rw [← hdn] at HSN
    have HTE := Lib.hid (show ((d0 ++ ⟨#[32]⟩) ++ Dc) = ba (textA ⟨5, b, c, o, n⟩) from by
      rw [HTX.out, if_pos rfl, HPT.out, hd0, hdc]
      apply WideShapes.bytes_inj
      simp [ByteArray.data_append, ba, Tx.jn])
    clear hd0 hdb hdc hdo hdn hzb hzc hzo hzn hzk
    have n0 : ¬ 9223372036854775807 < d0.size + 1 := by omega
    have n1 : ¬ 9223372036854775807 < d0.size + 1 + Dc.size := by omega
    clear z0 zb zc zo zn
    go_enter Tryd.func12, Tryd.ntmps12
    go_wp2_with fail
    refine (HR.out _).mono ?_
    rintro e W1 ⟨rfl, hb⟩
    have HW1 := Lib.hid (HB0.out.trans (hb.mono (by simp)))
    clear hb
    have k0 : W1.cell? ⟨w.heap.size, 0, none⟩ = some (.int .i64 5) := cell_of1' (HC0.out W1 HW1.out) 0
    have k1 : W1.cell? ⟨w.heap.size, 1, none⟩ = some (.int .u64 b) := cell_of1' (HC0.out W1 HW1.out) 1
    have k2 : W1.cell? ⟨w.heap.size, 2, none⟩ = some (.int .i64 c) := cell_of1' (HC0.out W1 HW1.out) 2
    have k3 : W1.cell? ⟨w.heap.size, 3, none⟩ = some (.int .u64 o) := cell_of1' (HC0.out W1 HW1.out) 3
    have k4 : W1.cell? ⟨w.heap.size, 4, none⟩ = some (.int .u64 n) := cell_of1' (HC0.out W1 HW1.out) 4
    go_wp2_with fail
    clear k0 k1 k2 k3 k4
    refine (HWK.out _).mono ?_
    rintro e W2 ⟨rfl, hb⟩
    have HW2 := Lib.hid (HW1.out.trans (hb.mono (by have := HW1.out.size; simpa using this)))
    clear hb
    have k0 : W2.cell? ⟨w.heap.size, 0, none⟩ = some (.int .i64 5) := cell_of1' (HC0.out W2 HW2.out) 0
    have k1 : W2.cell? ⟨w.heap.size, 1, none⟩ = some (.int .u64 b) := cell_of1' (HC0.out W2 HW2.out) 1
    have k2 : W2.cell? ⟨w.heap.size, 2, none⟩ = some (.int .i64 c) := cell_of1' (HC0.out W2 HW2.out) 2
    have k3 : W2.cell? ⟨w.heap.size, 3, none⟩ = some (.int .u64 o) := cell_of1' (HC0.out W2 HW2.out) 3
    have k4 : W2.cell? ⟨w.heap.size, 4, none⟩ = some (.int .u64 n) := cell_of1' (HC0.out W2 HW2.out) 4
    go_wp2_with fail
    clear k0 k1 k2 k3 k4
    refine (HSC.out _).mono ?_
    rintro e W3 ⟨rfl, hb⟩
    have HW3 := Lib.hid (HW2.out.trans (hb.mono (by have := HW2.out.size; simpa using this)))
    clear hb
    have k0 : W3.cell? ⟨w.heap.size, 0, none⟩ = some (.int .i64 5) := cell_of1' (HC0.out W3 HW3.out) 0
    have k1 : W3.cell? ⟨w.heap.size, 1, none⟩ = some (.int .u64 b) := cell_of1' (HC0.out W3 HW3.out) 1
    have k2 : W3.cell? ⟨w.heap.size, 2, none⟩ = some (.int .i64 c) := cell_of1' (HC0.out W3 HW3.out) 2
    have k3 : W3.cell? ⟨w.heap.size, 3, none⟩ = some (.int .u64 o) := cell_of1' (HC0.out W3 HW3.out) 3
    have k4 : W3.cell? ⟨w.heap.size, 4, none⟩ = some (.int .u64 n) := cell_of1' (HC0.out W3 HW3.out) 4
    go_wp2_with fail

    go_ret
    exact ⟨by rw [← HTE.out]; rfl, HBL.out _ HW3.out⟩
  · have HWK := Lib.hid (fun (W : World) => show Calls Tryd.prog 49 #[.int .i64 6] W fun e w' => e = .returned (.string (ba (kw 6))) ∧ Below W.heap.size W w' from word_any W 6 (by decide))
    have HPT := Lib.hid (show partsA ⟨6, b, c, o, n⟩ = [kw 6, dg b] from rfl)
    have hzk := kw_len 6
    obtain ⟨d0, hd0⟩ : ∃ x, x = ba (kw 6) := ⟨_, rfl⟩
    have z0 : d0.size ≤ 20 := by rw [hd0, ba_size]; exact hzk
    rw [← hd0] at HWK
    obtain ⟨Db, hdb⟩ : ∃ x, x = ba (dg b) := ⟨_, rfl⟩
    have zb : Db.size ≤ 20 := by rw [hdb, ba_size]; exact hzb
    rw [← hdb] at HSB
    obtain ⟨Dc, hdc⟩ : ∃ x, x = ba (dg c) := ⟨_, rfl⟩
    have zc : Dc.size ≤ 20 := by rw [hdc, ba_size]; exact hzc
    rw [← hdc] at HSC
    obtain ⟨Do, hdo⟩ : ∃ x, x = ba (dg o) := ⟨_, rfl⟩
    have zo : Do.size ≤ 20 := by rw [hdo, ba_size]; exact hzo
    rw [← hdo] at HSO
    obtain ⟨Dn, hdn⟩ : ∃ x, x = ba (dg n) := ⟨_, rfl⟩
    have zn : Dn.size ≤ 20 := by rw [hdn, ba_size]; exact hzn
    rw [← hdn] at HSN
    have HTE := Lib.hid (show ((d0 ++ ⟨#[32]⟩) ++ Db) = ba (textA ⟨6, b, c, o, n⟩) from by
      rw [HTX.out, if_pos rfl, HPT.out, hd0, hdb]
      apply WideShapes.bytes_inj
      simp [ByteArray.data_append, ba, Tx.jn])
    clear hd0 hdb hdc hdo hdn hzb hzc hzo hzn hzk
    have n0 : ¬ 9223372036854775807 < d0.size + 1 := by omega
    have n1 : ¬ 9223372036854775807 < d0.size + 1 + Db.size := by omega
    clear z0 zb zc zo zn
    go_enter Tryd.func12, Tryd.ntmps12
    go_wp2_with fail
    refine (HR.out _).mono ?_
    rintro e W1 ⟨rfl, hb⟩
    have HW1 := Lib.hid (HB0.out.trans (hb.mono (by simp)))
    clear hb
    have k0 : W1.cell? ⟨w.heap.size, 0, none⟩ = some (.int .i64 6) := cell_of1' (HC0.out W1 HW1.out) 0
    have k1 : W1.cell? ⟨w.heap.size, 1, none⟩ = some (.int .u64 b) := cell_of1' (HC0.out W1 HW1.out) 1
    have k2 : W1.cell? ⟨w.heap.size, 2, none⟩ = some (.int .i64 c) := cell_of1' (HC0.out W1 HW1.out) 2
    have k3 : W1.cell? ⟨w.heap.size, 3, none⟩ = some (.int .u64 o) := cell_of1' (HC0.out W1 HW1.out) 3
    have k4 : W1.cell? ⟨w.heap.size, 4, none⟩ = some (.int .u64 n) := cell_of1' (HC0.out W1 HW1.out) 4
    go_wp2_with fail
    clear k0 k1 k2 k3 k4
    refine (HWK.out _).mono ?_
    rintro e W2 ⟨rfl, hb⟩
    have HW2 := Lib.hid (HW1.out.trans (hb.mono (by have := HW1.out.size; simpa using this)))
    clear hb
    have k0 : W2.cell? ⟨w.heap.size, 0, none⟩ = some (.int .i64 6) := cell_of1' (HC0.out W2 HW2.out) 0
    have k1 : W2.cell? ⟨w.heap.size, 1, none⟩ = some (.int .u64 b) := cell_of1' (HC0.out W2 HW2.out) 1
    have k2 : W2.cell? ⟨w.heap.size, 2, none⟩ = some (.int .i64 c) := cell_of1' (HC0.out W2 HW2.out) 2
    have k3 : W2.cell? ⟨w.heap.size, 3, none⟩ = some (.int .u64 o) := cell_of1' (HC0.out W2 HW2.out) 3
    have k4 : W2.cell? ⟨w.heap.size, 4, none⟩ = some (.int .u64 n) := cell_of1' (HC0.out W2 HW2.out) 4
    go_wp2_with fail
    clear k0 k1 k2 k3 k4
    refine (HSB.out _).mono ?_
    rintro e W3 ⟨rfl, hb⟩
    have HW3 := Lib.hid (HW2.out.trans (hb.mono (by have := HW2.out.size; simpa using this)))
    clear hb
    have k0 : W3.cell? ⟨w.heap.size, 0, none⟩ = some (.int .i64 6) := cell_of1' (HC0.out W3 HW3.out) 0
    have k1 : W3.cell? ⟨w.heap.size, 1, none⟩ = some (.int .u64 b) := cell_of1' (HC0.out W3 HW3.out) 1
    have k2 : W3.cell? ⟨w.heap.size, 2, none⟩ = some (.int .i64 c) := cell_of1' (HC0.out W3 HW3.out) 2
    have k3 : W3.cell? ⟨w.heap.size, 3, none⟩ = some (.int .u64 o) := cell_of1' (HC0.out W3 HW3.out) 3
    have k4 : W3.cell? ⟨w.heap.size, 4, none⟩ = some (.int .u64 n) := cell_of1' (HC0.out W3 HW3.out) 4
    go_wp2_with fail

    go_ret
    exact ⟨by rw [← HTE.out]; rfl, HBL.out _ HW3.out⟩
end Go.Proofs.YtdibkhddhgaghaaDoor.Ac
