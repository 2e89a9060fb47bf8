/- act.Text, the reference's word and Text: the walks. -/
import Derived.Test.YtdibkhddhgaghaaDoorActSmall
import Derived.Test.YtdibkhddhgaghaaDoorRTail
import Derived.Test.YtdibkhddhgaghaaDoorDigitFmt
import Derived.Test.YtdibkhddhgaghaaDoorDigitPrint
import Derived.Test.YtdibkhddhgaghaaDoorDigitWalk2
import Derived.Test.YtdibkhddhgaghaaDoorShelf
import Derived.Deep.AppendLies
import Derived.Laws.OwnMore
import Derived.Outline
namespace Go.Proofs.YtdibkhddhgaghaaDoor.Ac
open Go.RowKit
set_option linter.unusedVariables false
set_option linter.unusedSimpArgs false
def ba (l : List UInt8) : ByteArray := ⟨l.toArray⟩
/-- The table of words lies in w. -/
structure Wds (w : World) : Prop where
  lt : 0 < w.heap.size
  at_ : ∀ k : Nat, k < 7 → w.cell? ⟨0, k, none⟩ = some (.string (ba (kw k)))
theorem Wds.below {w w' : World} (h : Wds w) (hb : Below w.heap.size w w') : Wds w' := ⟨Nat.lt_of_lt_of_le h.lt hb.size, fun k hk => (hb.cell (p := ⟨0, k, none⟩) h.lt).trans (h.at_ k hk)⟩
theorem ba_data (l : List UInt8) : (ba l).data.toList = l := by simp [ba]
theorem ba_size (l : List UInt8) : (ba l).size = l.length := by show l.toArray.size = _; simp
theorem dg_len {z : Int} (h0 : 0 ≤ z) (h1 : z < 18446744073709551616) : (dg z).length ≤ 20 := Dg.dec_len 20 z.toNat (by omega) (by omega)
theorem kw_len (k : Nat) : (kw k).length ≤ 20 := by unfold kw; split <;> decide
theorem parts_len {x : ActL} (h : Rng x) (hc : 0 ≤ x.cell) : ∀ p ∈ partsA x, p.length ≤ 20 := by
  obtain ⟨rb, rc, ro, rn⟩ := h
  intro p hp
  unfold partsA at hp
  simp only [List.mem_cons, List.mem_append] at hp
  rcases hp with rfl | ((hp | hp) | hp) | hp
  · exact kw_len _
  all_goals
    split at hp
    all_goals first
      | (simp at hp; done)
      | (simp at hp; subst hp; first | exact dg_len rb.1 rb.2 | exact dg_len hc (by omega) | exact dg_len ro.1 ro.2 | exact dg_len rn.1 rn.2)
theorem jn_len' (B : Nat) : ∀ ps : List (List UInt8), (∀ p ∈ ps, p.length ≤ B) → (Tx.jn 32 ps).length ≤ ps.length * (B + 1)
  | [], _ => by simp [Tx.jn]
  | [p], h => by have := h p (by simp); simp [Tx.jn]; omega
  | p :: q :: r, h => by
    have h1 := h p (by simp)
    have h2 := jn_len' B (q :: r) (fun x hx => h x (List.mem_cons_of_mem _ hx))
    show (p ++ 32 :: Tx.jn 32 (q :: r)).length ≤ _
    rw [List.length_append, List.length_cons]
    simp only [List.length_cons] at h2 ⊢
    rw [Nat.add_mul (r.length + 1) 1]
    omega
theorem parts_five (x : ActL) : (partsA x).length ≤ 5 := by
  unfold partsA
  simp only [List.length_cons, List.length_append]
  repeat' split
  all_goals simp
theorem text_len {x : ActL} (h : Rng x) : (textA x).length ≤ 105 := by
  unfold textA
  split
  · rename_i hr
    have h1 := jn_len' 20 (partsA x) (parts_len h (right_cell hr))
    have h2 := parts_five x
    have h3 := Nat.mul_le_mul_right 21 h2
    omega
  · simp
def strsA (l : List ByteArray) : List Value := l.map Value.string
theorem join_row {W : World} {base g n cap : Nat} {xs : List ByteArray} (h : W.ownsRow base 9 1 (.slice (some ⟨g, 0, none⟩) n cap) n (strsA xs)) (hn : n = xs.length) (hpos : 0 < xs.length) (hl : (Tx.jn 32 (xs.map (·.data.toList))).length ≤ 1000000) (hm : xs.length ≤ 1000000) :
    Calls Tryd.prog 48 #[.slice (some ⟨g, 0, none⟩) n cap, .string ⟨#[32]⟩] W fun e w' => e = .returned (.string (ba (Tx.jn 32 (xs.map (·.data.toList))))) ∧ Below W.heap.size W w' := by
  subst hn
  have hj := Tx.join_jn 32 (xs.map (·.data.toList))
  unfold ba
  rw [← hj] at hl ⊢
  refine Tryd.strings_Join g 0 cap xs ⟨#[32]⟩ W (fun j x hx => ?_) (World.ownsRow.lt h g rfl).2 (by omega) ?_ (by show (Lib.join _ [32]).length ≤ _; omega)
  · have := World.ownsRow.cells h (g := g) rfl j (.string x) (by unfold strsA; rw [List.getElem?_map, hx]; rfl)
    rw [Nat.zero_add]
    cases j <;> simpa [Addr.add] using this
  · obtain ⟨_, ⟨e, _⟩ | ⟨g', cap', cur, e, _, _, hc, _⟩⟩ := h
    · cases e
    · injection e with _ e1 e2
      omega
theorem cell_of1' {w : World} {g : Nat} {cs : Array Value} {T : TypeId} {f : Nat × Nat} (h : w.heap[g]? = some (.cells cs T f)) (i : Nat) : w.cell? ⟨g, i, none⟩ = cs[i]? := by
  simp [World.cell?, h]
theorem infoS2 : (Tryd.prog.info? 9).map (fun i => (i.zero, i.size, i.bytes)) = some (some (.string ⟨#[]⟩), 1, 16) := by kernel_rfl
theorem shape_s {W : World} {base : Nat} {e : TypeId} {size : Nat} {v : Value} {k : Nat} {xs : List Value} (h : W.ownsRow base e size v k xs) : ∃ A cap, v = .slice A k cap := by
  obtain ⟨_, ⟨e, e0⟩ | ⟨g, cap', cur, e, _⟩⟩ := h
  · exact ⟨none, 0, by rw [e, e0]⟩
  · exact ⟨_, _, e⟩
theorem pos_s {w : World} {base : Nat} {e : TypeId} {size n : Nat} {v : Value} {xs : List Value} (h : w.ownsRow base e size v n xs) (hn : 0 < n) : ∃ g cap, v = Value.slice (some ⟨g, 0, none⟩) n cap := by
  obtain ⟨_, ⟨_, e0⟩ | ⟨g, cap', cur, e, _⟩⟩ := h
  · omega
  · exact ⟨g, cap', e⟩
theorem own_bel {w w' : World} {base : Nat} {e : TypeId} {size n : Nat} {v : Value} {xs : List Value} (h : w.ownsRow base e size v n xs) (hb : Below w.heap.size w w') : w'.ownsRow base e size v n xs := by
  obtain ⟨h1, h2 | ⟨g, cap, cur, hv, hb', hg, rest⟩⟩ := h
  · exact ⟨h1, .inl h2⟩
  · exact ⟨h1, .inr ⟨g, cap, cur, hv, hb', (hb.block g (lt_of_block hg)).trans hg, rest⟩⟩
set_option maxHeartbeats 4000000 in
theorem word_any (w : World) (k : Nat) (h : k < 7) : Calls Tryd.prog 49 #[.int .i64 (k : Int)] w fun e w' => e = .returned (.string (ba (kw k))) ∧ Below w.heap.size w w' := by
  match k, h with
  | 0, _ =>
    show Calls Tryd.prog 49 #[.int .i64 0] w fun e w' => e = .returned (.string ⟨#[110, 111, 110, 101]⟩) ∧ Below w.heap.size w w'
    go_enter Tryd.func49, Tryd.ntmps49
    go_wp2_with fail
    go_ret
    exact ⟨rfl, (Below.refl _ _).alloc (Nat.le_refl _) _⟩
  | 1, _ =>
    show Calls Tryd.prog 49 #[.int .i64 1] w fun e w' => e = .returned (.string ⟨#[108, 111, 97, 100]⟩) ∧ Below w.heap.size w w'
    go_enter Tryd.func49, Tryd.ntmps49
    go_wp2_with fail
    go_ret
    exact ⟨rfl, (Below.refl _ _).alloc (Nat.le_refl _) _⟩
  | 2, _ =>
    show Calls Tryd.prog 49 #[.int .i64 2] w fun e w' => e = .returned (.string ⟨#[115, 116, 111, 114, 101]⟩) ∧ Below w.heap.size w w'
    go_enter Tryd.func49, Tryd.ntmps49
    go_wp2_with fail
    go_ret
    exact ⟨rfl, (Below.refl _ _).alloc (Nat.le_refl _) _⟩
  | 3, _ =>
    show Calls Tryd.prog 49 #[.int .i64 3] w fun e w' => e = .returned (.string ⟨#[99, 97, 115]⟩) ∧ Below w.heap.size w w'
    go_enter Tryd.func49, Tryd.ntmps49
    go_wp2_with fail
    go_ret
    exact ⟨rfl, (Below.refl _ _).alloc (Nat.le_refl _) _⟩
  | 4, _ =>
    show Calls Tryd.prog 49 #[.int .i64 4] w fun e w' => e = .returned (.string ⟨#[97, 100, 100]⟩) ∧ Below w.heap.size w w'
    go_enter Tryd.func49, Tryd.ntmps49
    go_wp2_with fail
    go_ret
    exact ⟨rfl, (Below.refl _ _).alloc (Nat.le_refl _) _⟩
  | 5, _ =>
    show Calls Tryd.prog 49 #[.int .i64 5] w fun e w' => e = .returned (.string ⟨#[97, 108, 108, 111, 99]⟩) ∧ Below w.heap.size w w'
    go_enter Tryd.func49, Tryd.ntmps49
    go_wp2_with fail
    go_ret
    exact ⟨rfl, (Below.refl _ _).alloc (Nat.le_refl _) _⟩
  | 6, _ =>
    show Calls Tryd.prog 49 #[.int .i64 6] w fun e w' => e = .returned (.string ⟨#[102, 114, 101, 101]⟩) ∧ Below w.heap.size w w'
    go_enter Tryd.func49, Tryd.ntmps49
    go_wp2_with fail
    go_ret
    exact ⟨rfl, (Below.refl _ _).alloc (Nat.le_refl _) _⟩
theorem itoa_dg {z : Int} (h : 0 ≤ z) : Lib.itoa z = dg z := by unfold Lib.itoa dg; rw [if_neg (by omega)]
set_option maxRecDepth 100000 in
set_option maxHeartbeats 32000000 in
theorem text_any (w : World) (x : ActL) (hx : Rng x) (hlo : -9223372036854775808 ≤ x.cell) (hT : Wds w) (hP : DgP.Pow w) : Calls Tryd.prog 11 #[encA x] w fun e w' => e = .returned (.string (ba (textA x))) ∧ Below w.heap.size w w' := by
  have HR := Lib.hid (fun W => right_any W x)
  have HWR := Lib.hid (fun W => writes_any W x)
  have HTX := Lib.hid (show textA x = if rightA x then Tx.jn 32 (partsA x) else [] from rfl)
  have HTL := Lib.hid (text_len hx)
  have HWD := Lib.hid hT
  have HPW := Lib.hid hP
  have hrc := @right_cell x
  have hrk := @right_kind x
  obtain ⟨i0, hi, hz0, hz1, hz2⟩ : ∃ i, Tryd.prog.info? 9 = some i ∧ i.zero = some (.string ⟨#[]⟩) ∧ i.size = 1 ∧ i.bytes = 16 := by
    have h := infoS2
    cases hp : Tryd.prog.info? 9 with
    | none => rw [hp] at h; cases h
    | some i =>
      rw [hp] at h
      simp only [Option.map_some, Option.some.injEq, Prod.mk.injEq] at h
      exact ⟨i, rfl, h.1, h.2.1, h.2.2⟩
  obtain ⟨rx, hrx⟩ : ∃ r, rightA x = r := ⟨_, rfl⟩
  unfold writesA at HWR
  rw [hrx] at HR HWR HTX hrc hrk
  clear hT hP
  obtain ⟨rb, rc, ro, rn⟩ := hx
  obtain ⟨k, b, c, o, n⟩ := x
  unfold encA cellsA at HR HWR ⊢
  dsimp only at HR HWR rb rc ro rn hrc hrk hlo ⊢
  have HC0 := Lib.hid (show ∀ W, Below (w.heap.size + 1) (w.alloc (.cells #[.int .i64 k, .int .u64 b, .int .i64 c, .int .u64 o, .int .u64 n] 24)) W → W.heap[w.heap.size]? = some (.cells #[.int .i64 k, .int .u64 b, .int .i64 c, .int .u64 o, .int .u64 n] 24 (0, 0)) from fun W hW => (hW.block w.heap.size (by omega)).trans (heap_alloc_new w _))
  have HBL := Lib.hid (show ∀ W, Below (w.heap.size + 1) (w.alloc (.cells #[.int .i64 k, .int .u64 b, .int .i64 c, .int .u64 o, .int .u64 n] 24)) W → Below w.heap.size w W from fun W hW => ((Below.refl _ _).alloc (Nat.le_refl _) _).trans (hW.mono (by omega)))
  have HB0 := Lib.hid (Below.refl (w.heap.size + 1) (w.alloc (.cells #[.int .i64 k, .int .u64 b, .int .i64 c, .int .u64 o, .int .u64 n] 24)))
  cases rx with
  | false =>
    go_enter Tryd.func11, Tryd.ntmps11
    go_wp2_with fail
    refine (HR.out _).mono ?_
    rintro e w1 ⟨rfl, hb⟩
    have HB := Lib.hid (HB0.out.trans (hb.mono (by simp)))
    clear hb
    go_wp2_with fail
    go_ret
    exact ⟨by rw [HTX.out]; rfl, HBL.out _ HB.out⟩
  | true =>
  have hc := hrc rfl
  have hk := hrk rfl
  clear hrc hrk
  have HSB := Lib.hid (fun (W : World) (hW : Below w.heap.size w W) => show Calls Tryd.prog 46 #[.int .u64 b] W fun e w' => e = .returned (.string (ba (dg b))) ∧ Below W.heap.size W w' from by
    have := DgW.show_any b.toNat (by omega) W (DgP.pow_below HPW.out hW)
    rw [Int.toNat_of_nonneg rb.1] at this
    exact this)
  have HSO := Lib.hid (fun (W : World) (hW : Below w.heap.size w W) => show Calls Tryd.prog 46 #[.int .u64 o] W fun e w' => e = .returned (.string (ba (dg o))) ∧ Below W.heap.size W w' from by
    have := DgW.show_any o.toNat (by omega) W (DgP.pow_below HPW.out hW)
    rw [Int.toNat_of_nonneg ro.1] at this
    exact this)
  have HSN := Lib.hid (fun (W : World) (hW : Below w.heap.size w W) => show Calls Tryd.prog 46 #[.int .u64 n] W fun e w' => e = .returned (.string (ba (dg n))) ∧ Below W.heap.size W w' from by
    have := DgW.show_any n.toNat (by omega) W (DgP.pow_below HPW.out hW)
    rw [Int.toNat_of_nonneg rn.1] at this
    exact this)
  have HSC := Lib.hid (fun (W : World) (hW : Below w.heap.size w W) => show Calls Tryd.prog 47 #[.int .i64 c] W fun e w' => e = .returned (.string (ba (dg c))) ∧ Below W.heap.size W w' from by
    have := DgW.print_any c (by omega) (by omega) W (DgP.pow_below HPW.out hW)
    rw [itoa_dg hc] at this
    exact this)
  rcases hk with rfl | rfl | rfl | rfl | rfl | rfl | rfl
  · have HWK := Lib.hid (show ∀ W, Below w.heap.size w W → W.cell? ⟨0, 0, none⟩ = some (.string (ba (kw 0))) from fun W hW => (HWD.out.below hW).at_ 0 (by decide))
    have HPT := Lib.hid (show partsA ⟨0, b, c, o, n⟩ = [kw 0] from rfl)
    obtain ⟨d0, hd0⟩ : ∃ x, x = ba (kw 0) := ⟨_, rfl⟩
    rw [← hd0] at HWK
    obtain ⟨Db, hdb⟩ : ∃ x, x = ba (dg b) := ⟨_, rfl⟩
    rw [← hdb] at HSB
    obtain ⟨Dc, hdc⟩ : ∃ x, x = ba (dg c) := ⟨_, rfl⟩
    rw [← hdc] at HSC
    obtain ⟨Do, hdo⟩ : ∃ x, x = ba (dg o) := ⟨_, rfl⟩
    rw [← hdo] at HSO
    obtain ⟨Dn, hdn⟩ : ∃ x, x = ba (dg n) := ⟨_, rfl⟩
    rw [← hdn] at HSN
    have HTE := Lib.hid (show Tx.jn 32 ([d0].map (·.data.toList)) = textA ⟨0, b, c, o, n⟩ from by
      rw [HTX.out, if_pos rfl, HPT.out, hd0]
      simp only [List.map_cons, List.map_nil, ba_data])
    clear hd0 hdb hdc hdo hdn
    go_enter Tryd.func11, Tryd.ntmps11
    go_wp2_with fail
    refine (HR.out _).mono ?_
    rintro e W1 ⟨rfl, hb⟩
    have HW1 := Lib.hid (HB0.out.trans (hb.mono (by simp)))
    clear hb
    have k0 : W1.cell? ⟨w.heap.size, 0, none⟩ = some (.int .i64 0) := cell_of1' (HC0.out W1 HW1.out) 0
    have k1 : W1.cell? ⟨w.heap.size, 1, none⟩ = some (.int .u64 b) := cell_of1' (HC0.out W1 HW1.out) 1
    have k2 : W1.cell? ⟨w.heap.size, 2, none⟩ = some (.int .i64 c) := cell_of1' (HC0.out W1 HW1.out) 2
    have k3 : W1.cell? ⟨w.heap.size, 3, none⟩ = some (.int .u64 o) := cell_of1' (HC0.out W1 HW1.out) 3
    have k4 : W1.cell? ⟨w.heap.size, 4, none⟩ = some (.int .u64 n) := cell_of1' (HC0.out W1 HW1.out) 4
    have g0 := HWK.out W1 (HBL.out _ HW1.out)
    have HO0 := Lib.hid (show (W1.alloc (.cells #[.string d0] 9)).ownsRow (w.heap.size + 1) 9 1 (.slice (some ⟨W1.heap.size, 0, none⟩) 1 1) 1 (strsA [d0]) from World.ownsRow_lit (base := w.heap.size + 1) (e := 9) (size := 1) W1 #[.string d0] 1 (by have := HW1.out.size; simpa using this) (by decide) rfl)
    have HWX := Lib.hid (show Below (w.heap.size + 1) (w.alloc (.cells #[.int .i64 0, .int .u64 b, .int .i64 c, .int .u64 o, .int .u64 n] 24)) (W1.alloc (.cells #[.string d0] 9)) from HW1.out.alloc (by have := HW1.out.size; simpa using this) _)
    have hq1 : w.heap.size < W1.heap.size := by have := HW1.out.size; simp at this; omega
    go_wp2_with fail
    clear k0 k1 k2 k3 k4 g0
    refine (HWR.out _).mono ?_
    rintro e W2 ⟨rfl, hb⟩
    have HW2 := Lib.hid (HWX.out.trans (hb.mono (by have := HWX.out.size; simpa using this)))
    have HRW2 := Lib.hid (own_bel HO0.out hb)
    clear hb
    have k0 : W2.cell? ⟨w.heap.size, 0, none⟩ = some (.int .i64 0) := cell_of1' (HC0.out W2 HW2.out) 0
    have k1 : W2.cell? ⟨w.heap.size, 1, none⟩ = some (.int .u64 b) := cell_of1' (HC0.out W2 HW2.out) 1
    have k2 : W2.cell? ⟨w.heap.size, 2, none⟩ = some (.int .i64 c) := cell_of1' (HC0.out W2 HW2.out) 2
    have k3 : W2.cell? ⟨w.heap.size, 3, none⟩ = some (.int .u64 o) := cell_of1' (HC0.out W2 HW2.out) 3
    have k4 : W2.cell? ⟨w.heap.size, 4, none⟩ = some (.int .u64 n) := cell_of1' (HC0.out W2 HW2.out) 4
    go_wp2_with fail
    clear k0 k1 k2 k3 k4
    have HJ := Lib.hid (join_row (xs := [d0]) HRW2.out rfl (by simp) (by rw [HTE.out]; have := HTL.out; omega) (by simp))
    rw [HTE.out] at HJ
    refine HJ.out.mono ?_
    rintro e W99 ⟨rfl, hb⟩
    have HZ := Lib.hid (HW2.out.trans (hb.mono (by have := HW2.out.size; simpa using this)))
    clear hb
    go_wp2_with fail
    go_ret
    exact ⟨rfl, HBL.out _ HZ.out⟩
  · have HWK := Lib.hid (show ∀ W, Below w.heap.size w W → W.cell? ⟨0, 1, none⟩ = some (.string (ba (kw 1))) from fun W hW => (HWD.out.below hW).at_ 1 (by decide))
    have HPT := Lib.hid (show partsA ⟨1, b, c, o, n⟩ = [kw 1, dg b, dg c] from rfl)
    obtain ⟨d0, hd0⟩ : ∃ x, x = ba (kw 1) := ⟨_, rfl⟩
    rw [← hd0] at HWK
    obtain ⟨Db, hdb⟩ : ∃ x, x = ba (dg b) := ⟨_, rfl⟩
    rw [← hdb] at HSB
    obtain ⟨Dc, hdc⟩ : ∃ x, x = ba (dg c) := ⟨_, rfl⟩
    rw [← hdc] at HSC
    obtain ⟨Do, hdo⟩ : ∃ x, x = ba (dg o) := ⟨_, rfl⟩
    rw [← hdo] at HSO
    obtain ⟨Dn, hdn⟩ : ∃ x, x = ba (dg n) := ⟨_, rfl⟩
    rw [← hdn] at HSN
    have HTE := Lib.hid (show Tx.jn 32 ([d0, Db, Dc].map (·.data.toList)) = textA ⟨1, b, c, o, n⟩ from by
      rw [HTX.out, if_pos rfl, HPT.out, hd0, hdb, hdc]
      simp only [List.map_cons, List.map_nil, ba_data])
    clear hd0 hdb hdc hdo hdn
    go_enter Tryd.func11, Tryd.ntmps11
    go_wp2_with fail
    refine (HR.out _).mono ?_
    rintro e W1 ⟨rfl, hb⟩
    have HW1 := Lib.hid (HB0.out.trans (hb.mono (by simp)))
    clear hb
    have k0 : W1.cell? ⟨w.heap.size, 0, none⟩ = some (.int .i64 1) := cell_of1' (HC0.out W1 HW1.out) 0
    have k1 : W1.cell? ⟨w.heap.size, 1, none⟩ = some (.int .u64 b) := cell_of1' (HC0.out W1 HW1.out) 1
    have k2 : W1.cell? ⟨w.heap.size, 2, none⟩ = some (.int .i64 c) := cell_of1' (HC0.out W1 HW1.out) 2
    have k3 : W1.cell? ⟨w.heap.size, 3, none⟩ = some (.int .u64 o) := cell_of1' (HC0.out W1 HW1.out) 3
    have k4 : W1.cell? ⟨w.heap.size, 4, none⟩ = some (.int .u64 n) := cell_of1' (HC0.out W1 HW1.out) 4
    have g0 := HWK.out W1 (HBL.out _ HW1.out)
    have HO0 := Lib.hid (show (W1.alloc (.cells #[.string d0] 9)).ownsRow (w.heap.size + 1) 9 1 (.slice (some ⟨W1.heap.size, 0, none⟩) 1 1) 1 (strsA [d0]) from World.ownsRow_lit (base := w.heap.size + 1) (e := 9) (size := 1) W1 #[.string d0] 1 (by have := HW1.out.size; simpa using this) (by decide) rfl)
    have HWX := Lib.hid (show Below (w.heap.size + 1) (w.alloc (.cells #[.int .i64 1, .int .u64 b, .int .i64 c, .int .u64 o, .int .u64 n] 24)) (W1.alloc (.cells #[.string d0] 9)) from HW1.out.alloc (by have := HW1.out.size; simpa using this) _)
    have hq1 : w.heap.size < W1.heap.size := by have := HW1.out.size; simp at this; omega
    go_wp2_with fail
    clear k0 k1 k2 k3 k4 g0
    refine (HSB.out _ (HBL.out _ HWX.out)).mono ?_
    rintro e W2 ⟨rfl, hb⟩
    have HW2 := Lib.hid (HWX.out.trans (hb.mono (by have := HWX.out.size; simpa using this)))
    have HRW2 := Lib.hid ((own_bel HO0.out hb).alloc (.cells #[.string Db] 9))
    have hsz2 := HW2.out.size
    clear hb
    have k0 : W2.cell? ⟨w.heap.size, 0, none⟩ = some (.int .i64 1) := cell_of1' (HC0.out W2 HW2.out) 0
    have k1 : W2.cell? ⟨w.heap.size, 1, none⟩ = some (.int .u64 b) := cell_of1' (HC0.out W2 HW2.out) 1
    have k2 : W2.cell? ⟨w.heap.size, 2, none⟩ = some (.int .i64 c) := cell_of1' (HC0.out W2 HW2.out) 2
    have k3 : W2.cell? ⟨w.heap.size, 3, none⟩ = some (.int .u64 o) := cell_of1' (HC0.out W2 HW2.out) 3
    have k4 : W2.cell? ⟨w.heap.size, 4, none⟩ = some (.int .u64 n) := cell_of1' (HC0.out W2 HW2.out) 4
    go_wp2_with (at_builtin; refine wpList_append_lies _ rfl _ _ 70 rfl (w.heap.size + 1) 9 i0 (.string ⟨#[]⟩) 1 16 Tryd.underlying70 hi hz0 hz1 hz2 rfl (by decide) (.slice (some ⟨W1.heap.size, 0, none⟩) 1 1) 1 (strsA [d0]) rfl HRW2.out ⟨W2.heap.size, 0, none⟩ 1 1 [.string Db] rfl rfl (World.news_of_block (cs := #[.string Db]) (t := 9) (fr := (0, 0)) (heap_alloc_new W2 _)) (by simp [Value.oneCell']) (by omega) (by unfold maxLen; omega) (by omega) (by simp at hsz2 ⊢; omega) _ rfl ?_; intro g3 cap3 W3 hown hgrow hat hlt; have HO3 := Lib.hid (show W3.ownsRow (w.heap.size + 1) 9 1 (.slice (some ⟨g3, 0, none⟩) 2 cap3) 2 (strsA ([d0, Db])) from hown); have HW3 := Lib.hid ((HW2.out.alloc (by have := HW2.out.size; simpa using this) (.cells #[.string Db] 9)).grown hgrow (by have := HW2.out.size; simp at this ⊢; omega) (fun j hj => (World.ownsRow.lt HRW2.out j hj).1)); have k0 : W3.cell? ⟨w.heap.size, 0, none⟩ = some (.int .i64 1) := cell_of1' (HC0.out W3 HW3.out) 0; have k1 : W3.cell? ⟨w.heap.size, 1, none⟩ = some (.int .u64 b) := cell_of1' (HC0.out W3 HW3.out) 1; have k2 : W3.cell? ⟨w.heap.size, 2, none⟩ = some (.int .i64 c) := cell_of1' (HC0.out W3 HW3.out) 2; have k3 : W3.cell? ⟨w.heap.size, 3, none⟩ = some (.int .u64 o) := cell_of1' (HC0.out W3 HW3.out) 3; have k4 : W3.cell? ⟨w.heap.size, 4, none⟩ = some (.int .u64 n) := cell_of1' (HC0.out W3 HW3.out) 4; clear hown hgrow hat hlt)
    clear k0 k1 k2 k3 k4 hsz2
    refine (HSC.out _ (HBL.out _ HW3.out)).mono ?_
    rintro e W4 ⟨rfl, hb⟩
    have HW4 := Lib.hid (HW3.out.trans (hb.mono (by have := HW3.out.size; simpa using this)))
    have HRW4 := Lib.hid ((own_bel HO3.out hb).alloc (.cells #[.string Dc] 9))
    have hsz4 := HW4.out.size
    clear hb
    have k0 : W4.cell? ⟨w.heap.size, 0, none⟩ = some (.int .i64 1) := cell_of1' (HC0.out W4 HW4.out) 0
    have k1 : W4.cell? ⟨w.heap.size, 1, none⟩ = some (.int .u64 b) := cell_of1' (HC0.out W4 HW4.out) 1
    have k2 : W4.cell? ⟨w.heap.size, 2, none⟩ = some (.int .i64 c) := cell_of1' (HC0.out W4 HW4.out) 2
    have k3 : W4.cell? ⟨w.heap.size, 3, none⟩ = some (.int .u64 o) := cell_of1' (HC0.out W4 HW4.out) 3
    have k4 : W4.cell? ⟨w.heap.size, 4, none⟩ = some (.int .u64 n) := cell_of1' (HC0.out W4 HW4.out) 4
    go_wp2_with (at_builtin; refine wpList_append_lies _ rfl _ _ 70 rfl (w.heap.size + 1) 9 i0 (.string ⟨#[]⟩) 1 16 Tryd.underlying70 hi hz0 hz1 hz2 rfl (by decide) (.slice (some ⟨g3, 0, none⟩) 2 cap3) 2 (strsA [d0, Db]) rfl HRW4.out ⟨W4.heap.size, 0, none⟩ 1 1 [.string Dc] rfl rfl (World.news_of_block (cs := #[.string Dc]) (t := 9) (fr := (0, 0)) (heap_alloc_new W4 _)) (by simp [Value.oneCell']) (by omega) (by unfold maxLen; omega) (by omega) (by simp at hsz4 ⊢; omega) _ rfl ?_; intro g5 cap5 W5 hown hgrow hat hlt; have HO5 := Lib.hid (show W5.ownsRow (w.heap.size + 1) 9 1 (.slice (some ⟨g5, 0, none⟩) 3 cap5) 3 (strsA ([d0, Db, Dc])) from hown); have HW5 := Lib.hid ((HW4.out.alloc (by have := HW4.out.size; simpa using this) (.cells #[.string Dc] 9)).grown hgrow (by have := HW4.out.size; simp at this ⊢; omega) (fun j hj => (World.ownsRow.lt HRW4.out j hj).1)); have k0 : W5.cell? ⟨w.heap.size, 0, none⟩ = some (.int .i64 1) := cell_of1' (HC0.out W5 HW5.out) 0; have k1 : W5.cell? ⟨w.heap.size, 1, none⟩ = some (.int .u64 b) := cell_of1' (HC0.out W5 HW5.out) 1; have k2 : W5.cell? ⟨w.heap.size, 2, none⟩ = some (.int .i64 c) := cell_of1' (HC0.out W5 HW5.out) 2; have k3 : W5.cell? ⟨w.heap.size, 3, none⟩ = some (.int .u64 o) := cell_of1' (HC0.out W5 HW5.out) 3; have k4 : W5.cell? ⟨w.heap.size, 4, none⟩ = some (.int .u64 n) := cell_of1' (HC0.out W5 HW5.out) 4; clear hown hgrow hat hlt)
    clear k0 k1 k2 k3 k4 hsz4
    refine (HWR.out _).mono ?_
    rintro e W6 ⟨rfl, hb⟩
    have HW6 := Lib.hid (HW5.out.trans (hb.mono (by have := HW5.out.size; simpa using this)))
    have HRW6 := Lib.hid (own_bel HO5.out hb)
    clear hb
    have k0 : W6.cell? ⟨w.heap.size, 0, none⟩ = some (.int .i64 1) := cell_of1' (HC0.out W6 HW6.out) 0
    have k1 : W6.cell? ⟨w.heap.size, 1, none⟩ = some (.int .u64 b) := cell_of1' (HC0.out W6 HW6.out) 1
    have k2 : W6.cell? ⟨w.heap.size, 2, none⟩ = some (.int .i64 c) := cell_of1' (HC0.out W6 HW6.out) 2
    have k3 : W6.cell? ⟨w.heap.size, 3, none⟩ = some (.int .u64 o) := cell_of1' (HC0.out W6 HW6.out) 3
    have k4 : W6.cell? ⟨w.heap.size, 4, none⟩ = some (.int .u64 n) := cell_of1' (HC0.out W6 HW6.out) 4
    go_wp2_with fail
    clear k0 k1 k2 k3 k4
    have HJ := Lib.hid (join_row (xs := [d0, Db, Dc]) HRW6.out rfl (by simp) (by rw [HTE.out]; have := HTL.out; omega) (by simp))
    rw [HTE.out] at HJ
    refine HJ.out.mono ?_
    rintro e W99 ⟨rfl, hb⟩
    have HZ := Lib.hid (HW6.out.trans (hb.mono (by have := HW6.out.size; simpa using this)))
    clear hb
    go_wp2_with fail
    go_ret
    exact ⟨rfl, HBL.out _ HZ.out⟩
  · have HWK := Lib.hid (show ∀ W, Below w.heap.size w W → W.cell? ⟨0, 2, none⟩ = some (.string (ba (kw 2))) from fun W hW => (HWD.out.below hW).at_ 2 (by decide))
    have HPT := Lib.hid (show partsA ⟨2, b, c, o, n⟩ = [kw 2, dg b, dg c, dg n] from rfl)
    obtain ⟨d0, hd0⟩ : ∃ x, x = ba (kw 2) := ⟨_, rfl⟩
    rw [← hd0] at HWK
    obtain ⟨Db, hdb⟩ : ∃ x, x = ba (dg b) := ⟨_, rfl⟩
    rw [← hdb] at HSB
    obtain ⟨Dc, hdc⟩ : ∃ x, x = ba (dg c) := ⟨_, rfl⟩
    rw [← hdc] at HSC
    obtain ⟨Do, hdo⟩ : ∃ x, x = ba (dg o) := ⟨_, rfl⟩
    rw [← hdo] at HSO
    obtain ⟨Dn, hdn⟩ : ∃ x, x = ba (dg n) := ⟨_, rfl⟩
    rw [← hdn] at HSN
    have HTE := Lib.hid (show Tx.jn 32 ([d0, Db, Dc, Dn].map (·.data.toList)) = textA ⟨2, b, c, o, n⟩ from by
      rw [HTX.out, if_pos rfl, HPT.out, hd0, hdb, hdc, hdn]
      simp only [List.map_cons, List.map_nil, ba_data])
    clear hd0 hdb hdc hdo hdn
    go_enter Tryd.func11, Tryd.ntmps11
    go_wp2_with fail
    refine (HR.out _).mono ?_
    rintro e W1 ⟨rfl, hb⟩
    have HW1 := Lib.hid (HB0.out.trans (hb.mono (by simp)))
    clear hb
    have k0 : W1.cell? ⟨w.heap.size, 0, none⟩ = some (.int .i64 2) := cell_of1' (HC0.out W1 HW1.out) 0
    have k1 : W1.cell? ⟨w.heap.size, 1, none⟩ = some (.int .u64 b) := cell_of1' (HC0.out W1 HW1.out) 1
    have k2 : W1.cell? ⟨w.heap.size, 2, none⟩ = some (.int .i64 c) := cell_of1' (HC0.out W1 HW1.out) 2
    have k3 : W1.cell? ⟨w.heap.size, 3, none⟩ = some (.int .u64 o) := cell_of1' (HC0.out W1 HW1.out) 3
    have k4 : W1.cell? ⟨w.heap.size, 4, none⟩ = some (.int .u64 n) := cell_of1' (HC0.out W1 HW1.out) 4
    have g0 := HWK.out W1 (HBL.out _ HW1.out)
    have HO0 := Lib.hid (show (W1.alloc (.cells #[.string d0] 9)).ownsRow (w.heap.size + 1) 9 1 (.slice (some ⟨W1.heap.size, 0, none⟩) 1 1) 1 (strsA [d0]) from World.ownsRow_lit (base := w.heap.size + 1) (e := 9) (size := 1) W1 #[.string d0] 1 (by have := HW1.out.size; simpa using this) (by decide) rfl)
    have HWX := Lib.hid (show Below (w.heap.size + 1) (w.alloc (.cells #[.int .i64 2, .int .u64 b, .int .i64 c, .int .u64 o, .int .u64 n] 24)) (W1.alloc (.cells #[.string d0] 9)) from HW1.out.alloc (by have := HW1.out.size; simpa using this) _)
    have hq1 : w.heap.size < W1.heap.size := by have := HW1.out.size; simp at this; omega
    go_wp2_with fail
    clear k0 k1 k2 k3 k4 g0
    refine (HSB.out _ (HBL.out _ HWX.out)).mono ?_
    rintro e W2 ⟨rfl, hb⟩
    have HW2 := Lib.hid (HWX.out.trans (hb.mono (by have := HWX.out.size; simpa using this)))
    have HRW2 := Lib.hid ((own_bel HO0.out hb).alloc (.cells #[.string Db] 9))
    have hsz2 := HW2.out.size
    clear hb
    have k0 : W2.cell? ⟨w.heap.size, 0, none⟩ = some (.int .i64 2) := cell_of1' (HC0.out W2 HW2.out) 0
    have k1 : W2.cell? ⟨w.heap.size, 1, none⟩ = some (.int .u64 b) := cell_of1' (HC0.out W2 HW2.out) 1
    have k2 : W2.cell? ⟨w.heap.size, 2, none⟩ = some (.int .i64 c) := cell_of1' (HC0.out W2 HW2.out) 2
    have k3 : W2.cell? ⟨w.heap.size, 3, none⟩ = some (.int .u64 o) := cell_of1' (HC0.out W2 HW2.out) 3
    have k4 : W2.cell? ⟨w.heap.size, 4, none⟩ = some (.int .u64 n) := cell_of1' (HC0.out W2 HW2.out) 4
    go_wp2_with (at_builtin; refine wpList_append_lies _ rfl _ _ 70 rfl (w.heap.size + 1) 9 i0 (.string ⟨#[]⟩) 1 16 Tryd.underlying70 hi hz0 hz1 hz2 rfl (by decide) (.slice (some ⟨W1.heap.size, 0, none⟩) 1 1) 1 (strsA [d0]) rfl HRW2.out ⟨W2.heap.size, 0, none⟩ 1 1 [.string Db] rfl rfl (World.news_of_block (cs := #[.string Db]) (t := 9) (fr := (0, 0)) (heap_alloc_new W2 _)) (by simp [Value.oneCell']) (by omega) (by unfold maxLen; omega) (by omega) (by simp at hsz2 ⊢; omega) _ rfl ?_; intro g3 cap3 W3 hown hgrow hat hlt; have HO3 := Lib.hid (show W3.ownsRow (w.heap.size + 1) 9 1 (.slice (some ⟨g3, 0, none⟩) 2 cap3) 2 (strsA ([d0, Db])) from hown); have HW3 := Lib.hid ((HW2.out.alloc (by have := HW2.out.size; simpa using this) (.cells #[.string Db] 9)).grown hgrow (by have := HW2.out.size; simp at this ⊢; omega) (fun j hj => (World.ownsRow.lt HRW2.out j hj).1)); have k0 : W3.cell? ⟨w.heap.size, 0, none⟩ = some (.int .i64 2) := cell_of1' (HC0.out W3 HW3.out) 0; have k1 : W3.cell? ⟨w.heap.size, 1, none⟩ = some (.int .u64 b) := cell_of1' (HC0.out W3 HW3.out) 1; have k2 : W3.cell? ⟨w.heap.size, 2, none⟩ = some (.int .i64 c) := cell_of1' (HC0.out W3 HW3.out) 2; have k3 : W3.cell? ⟨w.heap.size, 3, none⟩ = some (.int .u64 o) := cell_of1' (HC0.out W3 HW3.out) 3; have k4 : W3.cell? ⟨w.heap.size, 4, none⟩ = some (.int .u64 n) := cell_of1' (HC0.out W3 HW3.out) 4; clear hown hgrow hat hlt)
    clear k0 k1 k2 k3 k4 hsz2
    refine (HSC.out _ (HBL.out _ HW3.out)).mono ?_
    rintro e W4 ⟨rfl, hb⟩
    have HW4 := Lib.hid (HW3.out.trans (hb.mono (by have := HW3.out.size; simpa using this)))
    have HRW4 := Lib.hid ((own_bel HO3.out hb).alloc (.cells #[.string Dc] 9))
    have hsz4 := HW4.out.size
    clear hb
    have k0 : W4.cell? ⟨w.heap.size, 0, none⟩ = some (.int .i64 2) := cell_of1' (HC0.out W4 HW4.out) 0
    have k1 : W4.cell? ⟨w.heap.size, 1, none⟩ = some (.int .u64 b) := cell_of1' (HC0.out W4 HW4.out) 1
    have k2 : W4.cell? ⟨w.heap.size, 2, none⟩ = some (.int .i64 c) := cell_of1' (HC0.out W4 HW4.out) 2
    have k3 : W4.cell? ⟨w.heap.size, 3, none⟩ = some (.int .u64 o) := cell_of1' (HC0.out W4 HW4.out) 3
    have k4 : W4.cell? ⟨w.heap.size, 4, none⟩ = some (.int .u64 n) := cell_of1' (HC0.out W4 HW4.out) 4
    go_wp2_with (at_builtin; refine wpList_append_lies _ rfl _ _ 70 rfl (w.heap.size + 1) 9 i0 (.string ⟨#[]⟩) 1 16 Tryd.underlying70 hi hz0 hz1 hz2 rfl (by decide) (.slice (some ⟨g3, 0, none⟩) 2 cap3) 2 (strsA [d0, Db]) rfl HRW4.out ⟨W4.heap.size, 0, none⟩ 1 1 [.string Dc] rfl rfl (World.news_of_block (cs := #[.string Dc]) (t := 9) (fr := (0, 0)) (heap_alloc_new W4 _)) (by simp [Value.oneCell']) (by omega) (by unfold maxLen; omega) (by omega) (by simp at hsz4 ⊢; omega) _ rfl ?_; intro g5 cap5 W5 hown hgrow hat hlt; have HO5 := Lib.hid (show W5.ownsRow (w.heap.size + 1) 9 1 (.slice (some ⟨g5, 0, none⟩) 3 cap5) 3 (strsA ([d0, Db, Dc])) from hown); have HW5 := Lib.hid ((HW4.out.alloc (by have := HW4.out.size; simpa using this) (.cells #[.string Dc] 9)).grown hgrow (by have := HW4.out.size; simp at this ⊢; omega) (fun j hj => (World.ownsRow.lt HRW4.out j hj).1)); have k0 : W5.cell? ⟨w.heap.size, 0, none⟩ = some (.int .i64 2) := cell_of1' (HC0.out W5 HW5.out) 0; have k1 : W5.cell? ⟨w.heap.size, 1, none⟩ = some (.int .u64 b) := cell_of1' (HC0.out W5 HW5.out) 1; have k2 : W5.cell? ⟨w.heap.size, 2, none⟩ = some (.int .i64 c) := cell_of1' (HC0.out W5 HW5.out) 2; have k3 : W5.cell? ⟨w.heap.size, 3, none⟩ = some (.int .u64 o) := cell_of1' (HC0.out W5 HW5.out) 3; have k4 : W5.cell? ⟨w.heap.size, 4, none⟩ = some (.int .u64 n) := cell_of1' (HC0.out W5 HW5.out) 4; clear hown hgrow hat hlt)
    clear k0 k1 k2 k3 k4 hsz4
    refine (HWR.out _).mono ?_
    rintro e W6 ⟨rfl, hb⟩
    have HW6 := Lib.hid (HW5.out.trans (hb.mono (by have := HW5.out.size; simpa using this)))
    have HRW6 := Lib.hid (own_bel HO5.out hb)
    clear hb
    have k0 : W6.cell? ⟨w.heap.size, 0, none⟩ = some (.int .i64 2) := cell_of1' (HC0.out W6 HW6.out) 0
    have k1 : W6.cell? ⟨w.heap.size, 1, none⟩ = some (.int .u64 b) := cell_of1' (HC0.out W6 HW6.out) 1
    have k2 : W6.cell? ⟨w.heap.size, 2, none⟩ = some (.int .i64 c) := cell_of1' (HC0.out W6 HW6.out) 2
    have k3 : W6.cell? ⟨w.heap.size, 3, none⟩ = some (.int .u64 o) := cell_of1' (HC0.out W6 HW6.out) 3
    have k4 : W6.cell? ⟨w.heap.size, 4, none⟩ = some (.int .u64 n) := cell_of1' (HC0.out W6 HW6.out) 4
    go_wp2_with fail
    clear k0 k1 k2 k3 k4
    refine (HSN.out _ (HBL.out _ HW6.out)).mono ?_
    rintro e W7 ⟨rfl, hb⟩
    have HW7 := Lib.hid (HW6.out.trans (hb.mono (by have := HW6.out.size; simpa using this)))
    have HRW7 := Lib.hid ((own_bel HRW6.out hb).alloc (.cells #[.string Dn] 9))
    have hsz7 := HW7.out.size
    clear hb
    have k0 : W7.cell? ⟨w.heap.size, 0, none⟩ = some (.int .i64 2) := cell_of1' (HC0.out W7 HW7.out) 0
    have k1 : W7.cell? ⟨w.heap.size, 1, none⟩ = some (.int .u64 b) := cell_of1' (HC0.out W7 HW7.out) 1
    have k2 : W7.cell? ⟨w.heap.size, 2, none⟩ = some (.int .i64 c) := cell_of1' (HC0.out W7 HW7.out) 2
    have k3 : W7.cell? ⟨w.heap.size, 3, none⟩ = some (.int .u64 o) := cell_of1' (HC0.out W7 HW7.out) 3
    have k4 : W7.cell? ⟨w.heap.size, 4, none⟩ = some (.int .u64 n) := cell_of1' (HC0.out W7 HW7.out) 4
    go_wp2_with (at_builtin; refine wpList_append_lies _ rfl _ _ 70 rfl (w.heap.size + 1) 9 i0 (.string ⟨#[]⟩) 1 16 Tryd.underlying70 hi hz0 hz1 hz2 rfl (by decide) (.slice (some ⟨g5, 0, none⟩) 3 cap5) 3 (strsA [d0, Db, Dc]) rfl HRW7.out ⟨W7.heap.size, 0, none⟩ 1 1 [.string Dn] rfl rfl (World.news_of_block (cs := #[.string Dn]) (t := 9) (fr := (0, 0)) (heap_alloc_new W7 _)) (by simp [Value.oneCell']) (by omega) (by unfold maxLen; omega) (by omega) (by simp at hsz7 ⊢; omega) _ rfl ?_; intro g8 cap8 W8 hown hgrow hat hlt; have HO8 := Lib.hid (show W8.ownsRow (w.heap.size + 1) 9 1 (.slice (some ⟨g8, 0, none⟩) 4 cap8) 4 (strsA ([d0, Db, Dc, Dn])) from hown); have HW8 := Lib.hid ((HW7.out.alloc (by have := HW7.out.size; simpa using this) (.cells #[.string Dn] 9)).grown hgrow (by have := HW7.out.size; simp at this ⊢; omega) (fun j hj => (World.ownsRow.lt HRW7.out j hj).1)); have k0 : W8.cell? ⟨w.heap.size, 0, none⟩ = some (.int .i64 2) := cell_of1' (HC0.out W8 HW8.out) 0; have k1 : W8.cell? ⟨w.heap.size, 1, none⟩ = some (.int .u64 b) := cell_of1' (HC0.out W8 HW8.out) 1; have k2 : W8.cell? ⟨w.heap.size, 2, none⟩ = some (.int .i64 c) := cell_of1' (HC0.out W8 HW8.out) 2; have k3 : W8.cell? ⟨w.heap.size, 3, none⟩ = some (.int .u64 o) := cell_of1' (HC0.out W8 HW8.out) 3; have k4 : W8.cell? ⟨w.heap.size, 4, none⟩ = some (.int .u64 n) := cell_of1' (HC0.out W8 HW8.out) 4; clear hown hgrow hat hlt)
    clear k0 k1 k2 k3 k4 hsz7
    have HJ := Lib.hid (join_row (xs := [d0, Db, Dc, Dn]) HO8.out rfl (by simp) (by rw [HTE.out]; have := HTL.out; omega) (by simp))
    rw [HTE.out] at HJ
    refine HJ.out.mono ?_
    rintro e W99 ⟨rfl, hb⟩
    have HZ := Lib.hid (HW8.out.trans (hb.mono (by have := HW8.out.size; simpa using this)))
    clear hb
    go_wp2_with fail
    go_ret
    exact ⟨rfl, HBL.out _ HZ.out⟩
  · have HWK := Lib.hid (show ∀ W, Below w.heap.size w W → W.cell? ⟨0, 3, none⟩ = some (.string (ba (kw 3))) from fun W hW => (HWD.out.below hW).at_ 3 (by decide))
    have HPT := Lib.hid (show partsA ⟨3, b, c, o, n⟩ = [kw 3, dg b, dg c, dg o, dg n] from rfl)
    obtain ⟨d0, hd0⟩ : ∃ x, x = ba (kw 3) := ⟨_, rfl⟩
    rw [← hd0] at HWK
    obtain ⟨Db, hdb⟩ : ∃ x, x = ba (dg b) := ⟨_, rfl⟩
    rw [← hdb] at HSB
    obtain ⟨Dc, hdc⟩ : ∃ x, x = ba (dg c) := ⟨_, rfl⟩
    rw [← hdc] at HSC
    obtain ⟨Do, hdo⟩ : ∃ x, x = ba (dg o) := ⟨_, rfl⟩
    rw [← hdo] at HSO
    obtain ⟨Dn, hdn⟩ : ∃ x, x = ba (dg n) := ⟨_, rfl⟩
    rw [← hdn] at HSN
    have HTE := Lib.hid (show Tx.jn 32 ([d0, Db, Dc, Do, Dn].map (·.data.toList)) = textA ⟨3, b, c, o, n⟩ from by
      rw [HTX.out, if_pos rfl, HPT.out, hd0, hdb, hdc, hdo, hdn]
      simp only [List.map_cons, List.map_nil, ba_data])
    clear hd0 hdb hdc hdo hdn
    go_enter Tryd.func11, Tryd.ntmps11
    go_wp2_with fail
    refine (HR.out _).mono ?_
    rintro e W1 ⟨rfl, hb⟩
    have HW1 := Lib.hid (HB0.out.trans (hb.mono (by simp)))
    clear hb
    have k0 : W1.cell? ⟨w.heap.size, 0, none⟩ = some (.int .i64 3) := cell_of1' (HC0.out W1 HW1.out) 0
    have k1 : W1.cell? ⟨w.heap.size, 1, none⟩ = some (.int .u64 b) := cell_of1' (HC0.out W1 HW1.out) 1
    have k2 : W1.cell? ⟨w.heap.size, 2, none⟩ = some (.int .i64 c) := cell_of1' (HC0.out W1 HW1.out) 2
    have k3 : W1.cell? ⟨w.heap.size, 3, none⟩ = some (.int .u64 o) := cell_of1' (HC0.out W1 HW1.out) 3
    have k4 : W1.cell? ⟨w.heap.size, 4, none⟩ = some (.int .u64 n) := cell_of1' (HC0.out W1 HW1.out) 4
    have g0 := HWK.out W1 (HBL.out _ HW1.out)
    have HO0 := Lib.hid (show (W1.alloc (.cells #[.string d0] 9)).ownsRow (w.heap.size + 1) 9 1 (.slice (some ⟨W1.heap.size, 0, none⟩) 1 1) 1 (strsA [d0]) from World.ownsRow_lit (base := w.heap.size + 1) (e := 9) (size := 1) W1 #[.string d0] 1 (by have := HW1.out.size; simpa using this) (by decide) rfl)
    have HWX := Lib.hid (show Below (w.heap.size + 1) (w.alloc (.cells #[.int .i64 3, .int .u64 b, .int .i64 c, .int .u64 o, .int .u64 n] 24)) (W1.alloc (.cells #[.string d0] 9)) from HW1.out.alloc (by have := HW1.out.size; simpa using this) _)
    have hq1 : w.heap.size < W1.heap.size := by have := HW1.out.size; simp at this; omega
    go_wp2_with fail
    clear k0 k1 k2 k3 k4 g0
    refine (HSB.out _ (HBL.out _ HWX.out)).mono ?_
    rintro e W2 ⟨rfl, hb⟩
    have HW2 := Lib.hid (HWX.out.trans (hb.mono (by have := HWX.out.size; simpa using this)))
    have HRW2 := Lib.hid ((own_bel HO0.out hb).alloc (.cells #[.string Db] 9))
    have hsz2 := HW2.out.size
    clear hb
    have k0 : W2.cell? ⟨w.heap.size, 0, none⟩ = some (.int .i64 3) := cell_of1' (HC0.out W2 HW2.out) 0
    have k1 : W2.cell? ⟨w.heap.size, 1, none⟩ = some (.int .u64 b) := cell_of1' (HC0.out W2 HW2.out) 1
    have k2 : W2.cell? ⟨w.heap.size, 2, none⟩ = some (.int .i64 c) := cell_of1' (HC0.out W2 HW2.out) 2
    have k3 : W2.cell? ⟨w.heap.size, 3, none⟩ = some (.int .u64 o) := cell_of1' (HC0.out W2 HW2.out) 3
    have k4 : W2.cell? ⟨w.heap.size, 4, none⟩ = some (.int .u64 n) := cell_of1' (HC0.out W2 HW2.out) 4
    go_wp2_with (at_builtin; refine wpList_append_lies _ rfl _ _ 70 rfl (w.heap.size + 1) 9 i0 (.string ⟨#[]⟩) 1 16 Tryd.underlying70 hi hz0 hz1 hz2 rfl (by decide) (.slice (some ⟨W1.heap.size, 0, none⟩) 1 1) 1 (strsA [d0]) rfl HRW2.out ⟨W2.heap.size, 0, none⟩ 1 1 [.string Db] rfl rfl (World.news_of_block (cs := #[.string Db]) (t := 9) (fr := (0, 0)) (heap_alloc_new W2 _)) (by simp [Value.oneCell']) (by omega) (by unfold maxLen; omega) (by omega) (by simp at hsz2 ⊢; omega) _ rfl ?_; intro g3 cap3 W3 hown hgrow hat hlt; have HO3 := Lib.hid (show W3.ownsRow (w.heap.size + 1) 9 1 (.slice (some ⟨g3, 0, none⟩) 2 cap3) 2 (strsA ([d0, Db])) from hown); have HW3 := Lib.hid ((HW2.out.alloc (by have := HW2.out.size; simpa using this) (.cells #[.string Db] 9)).grown hgrow (by have := HW2.out.size; simp at this ⊢; omega) (fun j hj => (World.ownsRow.lt HRW2.out j hj).1)); have k0 : W3.cell? ⟨w.heap.size, 0, none⟩ = some (.int .i64 3) := cell_of1' (HC0.out W3 HW3.out) 0; have k1 : W3.cell? ⟨w.heap.size, 1, none⟩ = some (.int .u64 b) := cell_of1' (HC0.out W3 HW3.out) 1; have k2 : W3.cell? ⟨w.heap.size, 2, none⟩ = some (.int .i64 c) := cell_of1' (HC0.out W3 HW3.out) 2; have k3 : W3.cell? ⟨w.heap.size, 3, none⟩ = some (.int .u64 o) := cell_of1' (HC0.out W3 HW3.out) 3; have k4 : W3.cell? ⟨w.heap.size, 4, none⟩ = some (.int .u64 n) := cell_of1' (HC0.out W3 HW3.out) 4; clear hown hgrow hat hlt)
    clear k0 k1 k2 k3 k4 hsz2
    refine (HSC.out _ (HBL.out _ HW3.out)).mono ?_
    rintro e W4 ⟨rfl, hb⟩
    have HW4 := Lib.hid (HW3.out.trans (hb.mono (by have := HW3.out.size; simpa using this)))
    have HRW4 := Lib.hid ((own_bel HO3.out hb).alloc (.cells #[.string Dc] 9))
    have hsz4 := HW4.out.size
    clear hb
    have k0 : W4.cell? ⟨w.heap.size, 0, none⟩ = some (.int .i64 3) := cell_of1' (HC0.out W4 HW4.out) 0
    have k1 : W4.cell? ⟨w.heap.size, 1, none⟩ = some (.int .u64 b) := cell_of1' (HC0.out W4 HW4.out) 1
    have k2 : W4.cell? ⟨w.heap.size, 2, none⟩ = some (.int .i64 c) := cell_of1' (HC0.out W4 HW4.out) 2
    have k3 : W4.cell? ⟨w.heap.size, 3, none⟩ = some (.int .u64 o) := cell_of1' (HC0.out W4 HW4.out) 3
    have k4 : W4.cell? ⟨w.heap.size, 4, none⟩ = some (.int .u64 n) := cell_of1' (HC0.out W4 HW4.out) 4
    go_wp2_with (at_builtin; refine wpList_append_lies _ rfl _ _ 70 rfl (w.heap.size + 1) 9 i0 (.string ⟨#[]⟩) 1 16 Tryd.underlying70 hi hz0 hz1 hz2 rfl (by decide) (.slice (some ⟨g3, 0, none⟩) 2 cap3) 2 (strsA [d0, Db]) rfl HRW4.out ⟨W4.heap.size, 0, none⟩ 1 1 [.string Dc] rfl rfl (World.news_of_block (cs := #[.string Dc]) (t := 9) (fr := (0, 0)) (heap_alloc_new W4 _)) (by simp [Value.oneCell']) (by omega) (by unfold maxLen; omega) (by omega) (by simp at hsz4 ⊢; omega) _ rfl ?_; intro g5 cap5 W5 hown hgrow hat hlt; have HO5 := Lib.hid (show W5.ownsRow (w.heap.size + 1) 9 1 (.slice (some ⟨g5, 0, none⟩) 3 cap5) 3 (strsA ([d0, Db, Dc])) from hown); have HW5 := Lib.hid ((HW4.out.alloc (by have := HW4.out.size; simpa using this) (.cells #[.string Dc] 9)).grown hgrow (by have := HW4.out.size; simp at this ⊢; omega) (fun j hj => (World.ownsRow.lt HRW4.out j hj).1)); have k0 : W5.cell? ⟨w.heap.size, 0, none⟩ = some (.int .i64 3) := cell_of1' (HC0.out W5 HW5.out) 0; have k1 : W5.cell? ⟨w.heap.size, 1, none⟩ = some (.int .u64 b) := cell_of1' (HC0.out W5 HW5.out) 1; have k2 : W5.cell? ⟨w.heap.size, 2, none⟩ = some (.int .i64 c) := cell_of1' (HC0.out W5 HW5.out) 2; have k3 : W5.cell? ⟨w.heap.size, 3, none⟩ = some (.int .u64 o) := cell_of1' (HC0.out W5 HW5.out) 3; have k4 : W5.cell? ⟨w.heap.size, 4, none⟩ = some (.int .u64 n) := cell_of1' (HC0.out W5 HW5.out) 4; clear hown hgrow hat hlt)
    clear k0 k1 k2 k3 k4 hsz4
    refine (HSO.out _ (HBL.out _ HW5.out)).mono ?_
    rintro e W6 ⟨rfl, hb⟩
    have HW6 := Lib.hid (HW5.out.trans (hb.mono (by have := HW5.out.size; simpa using this)))
    have HRW6 := Lib.hid ((own_bel HO5.out hb).alloc (.cells #[.string Do] 9))
    have hsz6 := HW6.out.size
    clear hb
    have k0 : W6.cell? ⟨w.heap.size, 0, none⟩ = some (.int .i64 3) := cell_of1' (HC0.out W6 HW6.out) 0
    have k1 : W6.cell? ⟨w.heap.size, 1, none⟩ = some (.int .u64 b) := cell_of1' (HC0.out W6 HW6.out) 1
    have k2 : W6.cell? ⟨w.heap.size, 2, none⟩ = some (.int .i64 c) := cell_of1' (HC0.out W6 HW6.out) 2
    have k3 : W6.cell? ⟨w.heap.size, 3, none⟩ = some (.int .u64 o) := cell_of1' (HC0.out W6 HW6.out) 3
    have k4 : W6.cell? ⟨w.heap.size, 4, none⟩ = some (.int .u64 n) := cell_of1' (HC0.out W6 HW6.out) 4
    go_wp2_with (at_builtin; refine wpList_append_lies _ rfl _ _ 70 rfl (w.heap.size + 1) 9 i0 (.string ⟨#[]⟩) 1 16 Tryd.underlying70 hi hz0 hz1 hz2 rfl (by decide) (.slice (some ⟨g5, 0, none⟩) 3 cap5) 3 (strsA [d0, Db, Dc]) rfl HRW6.out ⟨W6.heap.size, 0, none⟩ 1 1 [.string Do] rfl rfl (World.news_of_block (cs := #[.string Do]) (t := 9) (fr := (0, 0)) (heap_alloc_new W6 _)) (by simp [Value.oneCell']) (by omega) (by unfold maxLen; omega) (by omega) (by simp at hsz6 ⊢; omega) _ rfl ?_; intro g7 cap7 W7 hown hgrow hat hlt; have HO7 := Lib.hid (show W7.ownsRow (w.heap.size + 1) 9 1 (.slice (some ⟨g7, 0, none⟩) 4 cap7) 4 (strsA ([d0, Db, Dc, Do])) from hown); have HW7 := Lib.hid ((HW6.out.alloc (by have := HW6.out.size; simpa using this) (.cells #[.string Do] 9)).grown hgrow (by have := HW6.out.size; simp at this ⊢; omega) (fun j hj => (World.ownsRow.lt HRW6.out j hj).1)); have k0 : W7.cell? ⟨w.heap.size, 0, none⟩ = some (.int .i64 3) := cell_of1' (HC0.out W7 HW7.out) 0; have k1 : W7.cell? ⟨w.heap.size, 1, none⟩ = some (.int .u64 b) := cell_of1' (HC0.out W7 HW7.out) 1; have k2 : W7.cell? ⟨w.heap.size, 2, none⟩ = some (.int .i64 c) := cell_of1' (HC0.out W7 HW7.out) 2; have k3 : W7.cell? ⟨w.heap.size, 3, none⟩ = some (.int .u64 o) := cell_of1' (HC0.out W7 HW7.out) 3; have k4 : W7.cell? ⟨w.heap.size, 4, none⟩ = some (.int .u64 n) := cell_of1' (HC0.out W7 HW7.out) 4; clear hown hgrow hat hlt)
    clear k0 k1 k2 k3 k4 hsz6
    refine (HWR.out _).mono ?_
    rintro e W8 ⟨rfl, hb⟩
    have HW8 := Lib.hid (HW7.out.trans (hb.mono (by have := HW7.out.size; simpa using this)))
    have HRW8 := Lib.hid (own_bel HO7.out hb)
    clear hb
    have k0 : W8.cell? ⟨w.heap.size, 0, none⟩ = some (.int .i64 3) := cell_of1' (HC0.out W8 HW8.out) 0
    have k1 : W8.cell? ⟨w.heap.size, 1, none⟩ = some (.int .u64 b) := cell_of1' (HC0.out W8 HW8.out) 1
    have k2 : W8.cell? ⟨w.heap.size, 2, none⟩ = some (.int .i64 c) := cell_of1' (HC0.out W8 HW8.out) 2
    have k3 : W8.cell? ⟨w.heap.size, 3, none⟩ = some (.int .u64 o) := cell_of1' (HC0.out W8 HW8.out) 3
    have k4 : W8.cell? ⟨w.heap.size, 4, none⟩ = some (.int .u64 n) := cell_of1' (HC0.out W8 HW8.out) 4
    go_wp2_with fail
    clear k0 k1 k2 k3 k4
    refine (HSN.out _ (HBL.out _ HW8.out)).mono ?_
    rintro e W9 ⟨rfl, hb⟩
    have HW9 := Lib.hid (HW8.out.trans (hb.mono (by have := HW8.out.size; simpa using this)))
    have HRW9 := Lib.hid ((own_bel HRW8.out hb).alloc (.cells #[.string Dn] 9))
    have hsz9 := HW9.out.size
    clear hb
    have k0 : W9.cell? ⟨w.heap.size, 0, none⟩ = some (.int .i64 3) := cell_of1' (HC0.out W9 HW9.out) 0
    have k1 : W9.cell? ⟨w.heap.size, 1, none⟩ = some (.int .u64 b) := cell_of1' (HC0.out W9 HW9.out) 1
    have k2 : W9.cell? ⟨w.heap.size, 2, none⟩ = some (.int .i64 c) := cell_of1' (HC0.out W9 HW9.out) 2
    have k3 : W9.cell? ⟨w.heap.size, 3, none⟩ = some (.int .u64 o) := cell_of1' (HC0.out W9 HW9.out) 3
    have k4 : W9.cell? ⟨w.heap.size, 4, none⟩ = some (.int .u64 n) := cell_of1' (HC0.out W9 HW9.out) 4
    go_wp2_with (at_builtin; refine wpList_append_lies _ rfl _ _ 70 rfl (w.heap.size + 1) 9 i0 (.string ⟨#[]⟩) 1 16 Tryd.underlying70 hi hz0 hz1 hz2 rfl (by decide) (.slice (some ⟨g7, 0, none⟩) 4 cap7) 4 (strsA [d0, Db, Dc, Do]) rfl HRW9.out ⟨W9.heap.size, 0, none⟩ 1 1 [.string Dn] rfl rfl (World.news_of_block (cs := #[.string Dn]) (t := 9) (fr := (0, 0)) (heap_alloc_new W9 _)) (by simp [Value.oneCell']) (by omega) (by unfold maxLen; omega) (by omega) (by simp at hsz9 ⊢; omega) _ rfl ?_; intro g10 cap10 W10 hown hgrow hat hlt; have HO10 := Lib.hid (show W10.ownsRow (w.heap.size + 1) 9 1 (.slice (some ⟨g10, 0, none⟩) 5 cap10) 5 (strsA ([d0, Db, Dc, Do, Dn])) from hown); have HW10 := Lib.hid ((HW9.out.alloc (by have := HW9.out.size; simpa using this) (.cells #[.string Dn] 9)).grown hgrow (by have := HW9.out.size; simp at this ⊢; omega) (fun j hj => (World.ownsRow.lt HRW9.out j hj).1)); have k0 : W10.cell? ⟨w.heap.size, 0, none⟩ = some (.int .i64 3) := cell_of1' (HC0.out W10 HW10.out) 0; have k1 : W10.cell? ⟨w.heap.size, 1, none⟩ = some (.int .u64 b) := cell_of1' (HC0.out W10 HW10.out) 1; have k2 : W10.cell? ⟨w.heap.size, 2, none⟩ = some (.int .i64 c) := cell_of1' (HC0.out W10 HW10.out) 2; have k3 : W10.cell? ⟨w.heap.size, 3, none⟩ = some (.int .u64 o) := cell_of1' (HC0.out W10 HW10.out) 3; have k4 : W10.cell? ⟨w.heap.size, 4, none⟩ = some (.int .u64 n) := cell_of1' (HC0.out W10 HW10.out) 4; clear hown hgrow hat hlt)
    clear k0 k1 k2 k3 k4 hsz9
    have HJ := Lib.hid (join_row (xs := [d0, Db, Dc, Do, Dn]) HO10.out rfl (by simp) (by rw [HTE.out]; have := HTL.out; omega) (by simp))
    rw [HTE.out] at HJ
    refine HJ.out.mono ?_
    rintro e W99 ⟨rfl, hb⟩
    have HZ := Lib.hid (HW10.out.trans (hb.mono (by have := HW10.out.size; simpa using this)))
    clear hb
    go_wp2_with fail
    go_ret
    exact ⟨rfl, HBL.out _ HZ.out⟩
  · have HWK := Lib.hid (show ∀ W, Below w.heap.size w W → W.cell? ⟨0, 4, none⟩ = some (.string (ba (kw 4))) from fun W hW => (HWD.out.below hW).at_ 4 (by decide))
    have HPT := Lib.hid (show partsA ⟨4, b, c, o, n⟩ = [kw 4, dg b, dg c, dg n] from rfl)
    obtain ⟨d0, hd0⟩ : ∃ x, x = ba (kw 4) := ⟨_, rfl⟩
    rw [← hd0] at HWK
    obtain ⟨Db, hdb⟩ : ∃ x, x = ba (dg b) := ⟨_, rfl⟩
    rw [← hdb] at HSB
    obtain ⟨Dc, hdc⟩ : ∃ x, x = ba (dg c) := ⟨_, rfl⟩
    rw [← hdc] at HSC
    obtain ⟨Do, hdo⟩ : ∃ x, x = ba (dg o) := ⟨_, rfl⟩
    rw [← hdo] at HSO
    obtain ⟨Dn, hdn⟩ : ∃ x, x = ba (dg n) := ⟨_, rfl⟩
    rw [← hdn] at HSN
    have HTE := Lib.hid (show Tx.jn 32 ([d0, Db, Dc, Dn].map (·.data.toList)) = textA ⟨4, b, c, o, n⟩ from by
      rw [HTX.out, if_pos rfl, HPT.out, hd0, hdb, hdc, hdn]
      simp only [List.map_cons, List.map_nil, ba_data])
    clear hd0 hdb hdc hdo hdn
    go_enter Tryd.func11, Tryd.ntmps11
    go_wp2_with fail
    refine (HR.out _).mono ?_
    rintro e W1 ⟨rfl, hb⟩
    have HW1 := Lib.hid (HB0.out.trans (hb.mono (by simp)))
    clear hb
    have k0 : W1.cell? ⟨w.heap.size, 0, none⟩ = some (.int .i64 4) := cell_of1' (HC0.out W1 HW1.out) 0
    have k1 : W1.cell? ⟨w.heap.size, 1, none⟩ = some (.int .u64 b) := cell_of1' (HC0.out W1 HW1.out) 1
    have k2 : W1.cell? ⟨w.heap.size, 2, none⟩ = some (.int .i64 c) := cell_of1' (HC0.out W1 HW1.out) 2
    have k3 : W1.cell? ⟨w.heap.size, 3, none⟩ = some (.int .u64 o) := cell_of1' (HC0.out W1 HW1.out) 3
    have k4 : W1.cell? ⟨w.heap.size, 4, none⟩ = some (.int .u64 n) := cell_of1' (HC0.out W1 HW1.out) 4
    have g0 := HWK.out W1 (HBL.out _ HW1.out)
    have HO0 := Lib.hid (show (W1.alloc (.cells #[.string d0] 9)).ownsRow (w.heap.size + 1) 9 1 (.slice (some ⟨W1.heap.size, 0, none⟩) 1 1) 1 (strsA [d0]) from World.ownsRow_lit (base := w.heap.size + 1) (e := 9) (size := 1) W1 #[.string d0] 1 (by have := HW1.out.size; simpa using this) (by decide) rfl)
    have HWX := Lib.hid (show Below (w.heap.size + 1) (w.alloc (.cells #[.int .i64 4, .int .u64 b, .int .i64 c, .int .u64 o, .int .u64 n] 24)) (W1.alloc (.cells #[.string d0] 9)) from HW1.out.alloc (by have := HW1.out.size; simpa using this) _)
    have hq1 : w.heap.size < W1.heap.size := by have := HW1.out.size; simp at this; omega
    go_wp2_with fail
    clear k0 k1 k2 k3 k4 g0
    refine (HSB.out _ (HBL.out _ HWX.out)).mono ?_
    rintro e W2 ⟨rfl, hb⟩
    have HW2 := Lib.hid (HWX.out.trans (hb.mono (by have := HWX.out.size; simpa using this)))
    have HRW2 := Lib.hid ((own_bel HO0.out hb).alloc (.cells #[.string Db] 9))
    have hsz2 := HW2.out.size
    clear hb
    have k0 : W2.cell? ⟨w.heap.size, 0, none⟩ = some (.int .i64 4) := cell_of1' (HC0.out W2 HW2.out) 0
    have k1 : W2.cell? ⟨w.heap.size, 1, none⟩ = some (.int .u64 b) := cell_of1' (HC0.out W2 HW2.out) 1
    have k2 : W2.cell? ⟨w.heap.size, 2, none⟩ = some (.int .i64 c) := cell_of1' (HC0.out W2 HW2.out) 2
    have k3 : W2.cell? ⟨w.heap.size, 3, none⟩ = some (.int .u64 o) := cell_of1' (HC0.out W2 HW2.out) 3
    have k4 : W2.cell? ⟨w.heap.size, 4, none⟩ = some (.int .u64 n) := cell_of1' (HC0.out W2 HW2.out) 4
    go_wp2_with (at_builtin; refine wpList_append_lies _ rfl _ _ 70 rfl (w.heap.size + 1) 9 i0 (.string ⟨#[]⟩) 1 16 Tryd.underlying70 hi hz0 hz1 hz2 rfl (by decide) (.slice (some ⟨W1.heap.size, 0, none⟩) 1 1) 1 (strsA [d0]) rfl HRW2.out ⟨W2.heap.size, 0, none⟩ 1 1 [.string Db] rfl rfl (World.news_of_block (cs := #[.string Db]) (t := 9) (fr := (0, 0)) (heap_alloc_new W2 _)) (by simp [Value.oneCell']) (by omega) (by unfold maxLen; omega) (by omega) (by simp at hsz2 ⊢; omega) _ rfl ?_; intro g3 cap3 W3 hown hgrow hat hlt; have HO3 := Lib.hid (show W3.ownsRow (w.heap.size + 1) 9 1 (.slice (some ⟨g3, 0, none⟩) 2 cap3) 2 (strsA ([d0, Db])) from hown); have HW3 := Lib.hid ((HW2.out.alloc (by have := HW2.out.size; simpa using this) (.cells #[.string Db] 9)).grown hgrow (by have := HW2.out.size; simp at this ⊢; omega) (fun j hj => (World.ownsRow.lt HRW2.out j hj).1)); have k0 : W3.cell? ⟨w.heap.size, 0, none⟩ = some (.int .i64 4) := cell_of1' (HC0.out W3 HW3.out) 0; have k1 : W3.cell? ⟨w.heap.size, 1, none⟩ = some (.int .u64 b) := cell_of1' (HC0.out W3 HW3.out) 1; have k2 : W3.cell? ⟨w.heap.size, 2, none⟩ = some (.int .i64 c) := cell_of1' (HC0.out W3 HW3.out) 2; have k3 : W3.cell? ⟨w.heap.size, 3, none⟩ = some (.int .u64 o) := cell_of1' (HC0.out W3 HW3.out) 3; have k4 : W3.cell? ⟨w.heap.size, 4, none⟩ = some (.int .u64 n) := cell_of1' (HC0.out W3 HW3.out) 4; clear hown hgrow hat hlt)
    clear k0 k1 k2 k3 k4 hsz2
    refine (HSC.out _ (HBL.out _ HW3.out)).mono ?_
    rintro e W4 ⟨rfl, hb⟩
    have HW4 := Lib.hid (HW3.out.trans (hb.mono (by have := HW3.out.size; simpa using this)))
    have HRW4 := Lib.hid ((own_bel HO3.out hb).alloc (.cells #[.string Dc] 9))
    have hsz4 := HW4.out.size
    clear hb
    have k0 : W4.cell? ⟨w.heap.size, 0, none⟩ = some (.int .i64 4) := cell_of1' (HC0.out W4 HW4.out) 0
    have k1 : W4.cell? ⟨w.heap.size, 1, none⟩ = some (.int .u64 b) := cell_of1' (HC0.out W4 HW4.out) 1
    have k2 : W4.cell? ⟨w.heap.size, 2, none⟩ = some (.int .i64 c) := cell_of1' (HC0.out W4 HW4.out) 2
    have k3 : W4.cell? ⟨w.heap.size, 3, none⟩ = some (.int .u64 o) := cell_of1' (HC0.out W4 HW4.out) 3
    have k4 : W4.cell? ⟨w.heap.size, 4, none⟩ = some (.int .u64 n) := cell_of1' (HC0.out W4 HW4.out) 4
    go_wp2_with (at_builtin; refine wpList_append_lies _ rfl _ _ 70 rfl (w.heap.size + 1) 9 i0 (.string ⟨#[]⟩) 1 16 Tryd.underlying70 hi hz0 hz1 hz2 rfl (by decide) (.slice (some ⟨g3, 0, none⟩) 2 cap3) 2 (strsA [d0, Db]) rfl HRW4.out ⟨W4.heap.size, 0, none⟩ 1 1 [.string Dc] rfl rfl (World.news_of_block (cs := #[.string Dc]) (t := 9) (fr := (0, 0)) (heap_alloc_new W4 _)) (by simp [Value.oneCell']) (by omega) (by unfold maxLen; omega) (by omega) (by simp at hsz4 ⊢; omega) _ rfl ?_; intro g5 cap5 W5 hown hgrow hat hlt; have HO5 := Lib.hid (show W5.ownsRow (w.heap.size + 1) 9 1 (.slice (some ⟨g5, 0, none⟩) 3 cap5) 3 (strsA ([d0, Db, Dc])) from hown); have HW5 := Lib.hid ((HW4.out.alloc (by have := HW4.out.size; simpa using this) (.cells #[.string Dc] 9)).grown hgrow (by have := HW4.out.size; simp at this ⊢; omega) (fun j hj => (World.ownsRow.lt HRW4.out j hj).1)); have k0 : W5.cell? ⟨w.heap.size, 0, none⟩ = some (.int .i64 4) := cell_of1' (HC0.out W5 HW5.out) 0; have k1 : W5.cell? ⟨w.heap.size, 1, none⟩ = some (.int .u64 b) := cell_of1' (HC0.out W5 HW5.out) 1; have k2 : W5.cell? ⟨w.heap.size, 2, none⟩ = some (.int .i64 c) := cell_of1' (HC0.out W5 HW5.out) 2; have k3 : W5.cell? ⟨w.heap.size, 3, none⟩ = some (.int .u64 o) := cell_of1' (HC0.out W5 HW5.out) 3; have k4 : W5.cell? ⟨w.heap.size, 4, none⟩ = some (.int .u64 n) := cell_of1' (HC0.out W5 HW5.out) 4; clear hown hgrow hat hlt)
    clear k0 k1 k2 k3 k4 hsz4
    refine (HWR.out _).mono ?_
    rintro e W6 ⟨rfl, hb⟩
    have HW6 := Lib.hid (HW5.out.trans (hb.mono (by have := HW5.out.size; simpa using this)))
    have HRW6 := Lib.hid (own_bel HO5.out hb)
    clear hb
    have k0 : W6.cell? ⟨w.heap.size, 0, none⟩ = some (.int .i64 4) := cell_of1' (HC0.out W6 HW6.out) 0
    have k1 : W6.cell? ⟨w.heap.size, 1, none⟩ = some (.int .u64 b) := cell_of1' (HC0.out W6 HW6.out) 1
    have k2 : W6.cell? ⟨w.heap.size, 2, none⟩ = some (.int .i64 c) := cell_of1' (HC0.out W6 HW6.out) 2
    have k3 : W6.cell? ⟨w.heap.size, 3, none⟩ = some (.int .u64 o) := cell_of1' (HC0.out W6 HW6.out) 3
    have k4 : W6.cell? ⟨w.heap.size, 4, none⟩ = some (.int .u64 n) := cell_of1' (HC0.out W6 HW6.out) 4
    go_wp2_with fail
    clear k0 k1 k2 k3 k4
    refine (HSN.out _ (HBL.out _ HW6.out)).mono ?_
    rintro e W7 ⟨rfl, hb⟩
    have HW7 := Lib.hid (HW6.out.trans (hb.mono (by have := HW6.out.size; simpa using this)))
    have HRW7 := Lib.hid ((own_bel HRW6.out hb).alloc (.cells #[.string Dn] 9))
    have hsz7 := HW7.out.size
    clear hb
    have k0 : W7.cell? ⟨w.heap.size, 0, none⟩ = some (.int .i64 4) := cell_of1' (HC0.out W7 HW7.out) 0
    have k1 : W7.cell? ⟨w.heap.size, 1, none⟩ = some (.int .u64 b) := cell_of1' (HC0.out W7 HW7.out) 1
    have k2 : W7.cell? ⟨w.heap.size, 2, none⟩ = some (.int .i64 c) := cell_of1' (HC0.out W7 HW7.out) 2
    have k3 : W7.cell? ⟨w.heap.size, 3, none⟩ = some (.int .u64 o) := cell_of1' (HC0.out W7 HW7.out) 3
    have k4 : W7.cell? ⟨w.heap.size, 4, none⟩ = some (.int .u64 n) := cell_of1' (HC0.out W7 HW7.out) 4
    go_wp2_with (at_builtin; refine wpList_append_lies _ rfl _ _ 70 rfl (w.heap.size + 1) 9 i0 (.string ⟨#[]⟩) 1 16 Tryd.underlying70 hi hz0 hz1 hz2 rfl (by decide) (.slice (some ⟨g5, 0, none⟩) 3 cap5) 3 (strsA [d0, Db, Dc]) rfl HRW7.out ⟨W7.heap.size, 0, none⟩ 1 1 [.string Dn] rfl rfl (World.news_of_block (cs := #[.string Dn]) (t := 9) (fr := (0, 0)) (heap_alloc_new W7 _)) (by simp [Value.oneCell']) (by omega) (by unfold maxLen; omega) (by omega) (by simp at hsz7 ⊢; omega) _ rfl ?_; intro g8 cap8 W8 hown hgrow hat hlt; have HO8 := Lib.hid (show W8.ownsRow (w.heap.size + 1) 9 1 (.slice (some ⟨g8, 0, none⟩) 4 cap8) 4 (strsA ([d0, Db, Dc, Dn])) from hown); have HW8 := Lib.hid ((HW7.out.alloc (by have := HW7.out.size; simpa using this) (.cells #[.string Dn] 9)).grown hgrow (by have := HW7.out.size; simp at this ⊢; omega) (fun j hj => (World.ownsRow.lt HRW7.out j hj).1)); have k0 : W8.cell? ⟨w.heap.size, 0, none⟩ = some (.int .i64 4) := cell_of1' (HC0.out W8 HW8.out) 0; have k1 : W8.cell? ⟨w.heap.size, 1, none⟩ = some (.int .u64 b) := cell_of1' (HC0.out W8 HW8.out) 1; have k2 : W8.cell? ⟨w.heap.size, 2, none⟩ = some (.int .i64 c) := cell_of1' (HC0.out W8 HW8.out) 2; have k3 : W8.cell? ⟨w.heap.size, 3, none⟩ = some (.int .u64 o) := cell_of1' (HC0.out W8 HW8.out) 3; have k4 : W8.cell? ⟨w.heap.size, 4, none⟩ = some (.int .u64 n) := cell_of1' (HC0.out W8 HW8.out) 4; clear hown hgrow hat hlt)
    clear k0 k1 k2 k3 k4 hsz7
    have HJ := Lib.hid (join_row (xs := [d0, Db, Dc, Dn]) HO8.out rfl (by simp) (by rw [HTE.out]; have := HTL.out; omega) (by simp))
    rw [HTE.out] at HJ
    refine HJ.out.mono ?_
    rintro e W99 ⟨rfl, hb⟩
    have HZ := Lib.hid (HW8.out.trans (hb.mono (by have := HW8.out.size; simpa using this)))
    clear hb
    go_wp2_with fail
    go_ret
    exact ⟨rfl, HBL.out _ HZ.out⟩
  · have HWK := Lib.hid (show ∀ W, Below w.heap.size w W → W.cell? ⟨0, 5, none⟩ = some (.string (ba (kw 5))) from fun W hW => (HWD.out.below hW).at_ 5 (by decide))
    have HPT := Lib.hid (show partsA ⟨5, b, c, o, n⟩ = [kw 5, dg c] from rfl)
    obtain ⟨d0, hd0⟩ : ∃ x, x = ba (kw 5) := ⟨_, rfl⟩
    rw [← hd0] at HWK
    obtain ⟨Db, hdb⟩ : ∃ x, x = ba (dg b) := ⟨_, rfl⟩
    rw [← hdb] at HSB
    obtain ⟨Dc, hdc⟩ : ∃ x, x = ba (dg c) := ⟨_, rfl⟩
    rw [← hdc] at HSC
    obtain ⟨Do, hdo⟩ : ∃ x, x = ba (dg o) := ⟨_, rfl⟩
    rw [← hdo] at HSO
    obtain ⟨Dn, hdn⟩ : ∃ x, x = ba (dg n) := ⟨_, rfl⟩
    rw [← hdn] at HSN
    have HTE := Lib.hid (show Tx.jn 32 ([d0, Dc].map (·.data.toList)) = textA ⟨5, b, c, o, n⟩ from by
      rw [HTX.out, if_pos rfl, HPT.out, hd0, hdc]
      simp only [List.map_cons, List.map_nil, ba_data])
    clear hd0 hdb hdc hdo hdn
    go_enter Tryd.func11, Tryd.ntmps11
    go_wp2_with fail
    refine (HR.out _).mono ?_
    rintro e W1 ⟨rfl, hb⟩
    have HW1 := Lib.hid (HB0.out.trans (hb.mono (by simp)))
    clear hb
    have k0 : W1.cell? ⟨w.heap.size, 0, none⟩ = some (.int .i64 5) := cell_of1' (HC0.out W1 HW1.out) 0
    have k1 : W1.cell? ⟨w.heap.size, 1, none⟩ = some (.int .u64 b) := cell_of1' (HC0.out W1 HW1.out) 1
    have k2 : W1.cell? ⟨w.heap.size, 2, none⟩ = some (.int .i64 c) := cell_of1' (HC0.out W1 HW1.out) 2
    have k3 : W1.cell? ⟨w.heap.size, 3, none⟩ = some (.int .u64 o) := cell_of1' (HC0.out W1 HW1.out) 3
    have k4 : W1.cell? ⟨w.heap.size, 4, none⟩ = some (.int .u64 n) := cell_of1' (HC0.out W1 HW1.out) 4
    have g0 := HWK.out W1 (HBL.out _ HW1.out)
    have HO0 := Lib.hid (show (W1.alloc (.cells #[.string d0] 9)).ownsRow (w.heap.size + 1) 9 1 (.slice (some ⟨W1.heap.size, 0, none⟩) 1 1) 1 (strsA [d0]) from World.ownsRow_lit (base := w.heap.size + 1) (e := 9) (size := 1) W1 #[.string d0] 1 (by have := HW1.out.size; simpa using this) (by decide) rfl)
    have HWX := Lib.hid (show Below (w.heap.size + 1) (w.alloc (.cells #[.int .i64 5, .int .u64 b, .int .i64 c, .int .u64 o, .int .u64 n] 24)) (W1.alloc (.cells #[.string d0] 9)) from HW1.out.alloc (by have := HW1.out.size; simpa using this) _)
    have hq1 : w.heap.size < W1.heap.size := by have := HW1.out.size; simp at this; omega
    go_wp2_with fail
    clear k0 k1 k2 k3 k4 g0
    refine (HSC.out _ (HBL.out _ HWX.out)).mono ?_
    rintro e W2 ⟨rfl, hb⟩
    have HW2 := Lib.hid (HWX.out.trans (hb.mono (by have := HWX.out.size; simpa using this)))
    have HRW2 := Lib.hid ((own_bel HO0.out hb).alloc (.cells #[.string Dc] 9))
    have hsz2 := HW2.out.size
    clear hb
    have k0 : W2.cell? ⟨w.heap.size, 0, none⟩ = some (.int .i64 5) := cell_of1' (HC0.out W2 HW2.out) 0
    have k1 : W2.cell? ⟨w.heap.size, 1, none⟩ = some (.int .u64 b) := cell_of1' (HC0.out W2 HW2.out) 1
    have k2 : W2.cell? ⟨w.heap.size, 2, none⟩ = some (.int .i64 c) := cell_of1' (HC0.out W2 HW2.out) 2
    have k3 : W2.cell? ⟨w.heap.size, 3, none⟩ = some (.int .u64 o) := cell_of1' (HC0.out W2 HW2.out) 3
    have k4 : W2.cell? ⟨w.heap.size, 4, none⟩ = some (.int .u64 n) := cell_of1' (HC0.out W2 HW2.out) 4
    go_wp2_with (at_builtin; refine wpList_append_lies _ rfl _ _ 70 rfl (w.heap.size + 1) 9 i0 (.string ⟨#[]⟩) 1 16 Tryd.underlying70 hi hz0 hz1 hz2 rfl (by decide) (.slice (some ⟨W1.heap.size, 0, none⟩) 1 1) 1 (strsA [d0]) rfl HRW2.out ⟨W2.heap.size, 0, none⟩ 1 1 [.string Dc] rfl rfl (World.news_of_block (cs := #[.string Dc]) (t := 9) (fr := (0, 0)) (heap_alloc_new W2 _)) (by simp [Value.oneCell']) (by omega) (by unfold maxLen; omega) (by omega) (by simp at hsz2 ⊢; omega) _ rfl ?_; intro g3 cap3 W3 hown hgrow hat hlt; have HO3 := Lib.hid (show W3.ownsRow (w.heap.size + 1) 9 1 (.slice (some ⟨g3, 0, none⟩) 2 cap3) 2 (strsA ([d0, Dc])) from hown); have HW3 := Lib.hid ((HW2.out.alloc (by have := HW2.out.size; simpa using this) (.cells #[.string Dc] 9)).grown hgrow (by have := HW2.out.size; simp at this ⊢; omega) (fun j hj => (World.ownsRow.lt HRW2.out j hj).1)); have k0 : W3.cell? ⟨w.heap.size, 0, none⟩ = some (.int .i64 5) := cell_of1' (HC0.out W3 HW3.out) 0; have k1 : W3.cell? ⟨w.heap.size, 1, none⟩ = some (.int .u64 b) := cell_of1' (HC0.out W3 HW3.out) 1; have k2 : W3.cell? ⟨w.heap.size, 2, none⟩ = some (.int .i64 c) := cell_of1' (HC0.out W3 HW3.out) 2; have k3 : W3.cell? ⟨w.heap.size, 3, none⟩ = some (.int .u64 o) := cell_of1' (HC0.out W3 HW3.out) 3; have k4 : W3.cell? ⟨w.heap.size, 4, none⟩ = some (.int .u64 n) := cell_of1' (HC0.out W3 HW3.out) 4; clear hown hgrow hat hlt)
    clear k0 k1 k2 k3 k4 hsz2
    refine (HWR.out _).mono ?_
    rintro e W4 ⟨rfl, hb⟩
    have HW4 := Lib.hid (HW3.out.trans (hb.mono (by have := HW3.out.size; simpa using this)))
    have HRW4 := Lib.hid (own_bel HO3.out hb)
    clear hb
    have k0 : W4.cell? ⟨w.heap.size, 0, none⟩ = some (.int .i64 5) := cell_of1' (HC0.out W4 HW4.out) 0
    have k1 : W4.cell? ⟨w.heap.size, 1, none⟩ = some (.int .u64 b) := cell_of1' (HC0.out W4 HW4.out) 1
    have k2 : W4.cell? ⟨w.heap.size, 2, none⟩ = some (.int .i64 c) := cell_of1' (HC0.out W4 HW4.out) 2
    have k3 : W4.cell? ⟨w.heap.size, 3, none⟩ = some (.int .u64 o) := cell_of1' (HC0.out W4 HW4.out) 3
    have k4 : W4.cell? ⟨w.heap.size, 4, none⟩ = some (.int .u64 n) := cell_of1' (HC0.out W4 HW4.out) 4
    go_wp2_with fail
    clear k0 k1 k2 k3 k4
    have HJ := Lib.hid (join_row (xs := [d0, Dc]) HRW4.out rfl (by simp) (by rw [HTE.out]; have := HTL.out; omega) (by simp))
    rw [HTE.out] at HJ
    refine HJ.out.mono ?_
    rintro e W99 ⟨rfl, hb⟩
    have HZ := Lib.hid (HW4.out.trans (hb.mono (by have := HW4.out.size; simpa using this)))
    clear hb
    go_wp2_with fail
    go_ret
    exact ⟨rfl, HBL.out _ HZ.out⟩
  · have HWK := Lib.hid (show ∀ W, Below w.heap.size w W → W.cell? ⟨0, 6, none⟩ = some (.string (ba (kw 6))) from fun W hW => (HWD.out.below hW).at_ 6 (by decide))
    have HPT := Lib.hid (show partsA ⟨6, b, c, o, n⟩ = [kw 6, dg b] from rfl)
    obtain ⟨d0, hd0⟩ : ∃ x, x = ba (kw 6) := ⟨_, rfl⟩
    rw [← hd0] at HWK
    obtain ⟨Db, hdb⟩ : ∃ x, x = ba (dg b) := ⟨_, rfl⟩
    rw [← hdb] at HSB
    obtain ⟨Dc, hdc⟩ : ∃ x, x = ba (dg c) := ⟨_, rfl⟩
    rw [← hdc] at HSC
    obtain ⟨Do, hdo⟩ : ∃ x, x = ba (dg o) := ⟨_, rfl⟩
    rw [← hdo] at HSO
    obtain ⟨Dn, hdn⟩ : ∃ x, x = ba (dg n) := ⟨_, rfl⟩
    rw [← hdn] at HSN
    have HTE := Lib.hid (show Tx.jn 32 ([d0, Db].map (·.data.toList)) = textA ⟨6, b, c, o, n⟩ from by
      rw [HTX.out, if_pos rfl, HPT.out, hd0, hdb]
      simp only [List.map_cons, List.map_nil, ba_data])
    clear hd0 hdb hdc hdo hdn
    go_enter Tryd.func11, Tryd.ntmps11
    go_wp2_with fail
    refine (HR.out _).mono ?_
    rintro e W1 ⟨rfl, hb⟩
    have HW1 := Lib.hid (HB0.out.trans (hb.mono (by simp)))
    clear hb
    have k0 : W1.cell? ⟨w.heap.size, 0, none⟩ = some (.int .i64 6) := cell_of1' (HC0.out W1 HW1.out) 0
    have k1 : W1.cell? ⟨w.heap.size, 1, none⟩ = some (.int .u64 b) := cell_of1' (HC0.out W1 HW1.out) 1
    have k2 : W1.cell? ⟨w.heap.size, 2, none⟩ = some (.int .i64 c) := cell_of1' (HC0.out W1 HW1.out) 2
    have k3 : W1.cell? ⟨w.heap.size, 3, none⟩ = some (.int .u64 o) := cell_of1' (HC0.out W1 HW1.out) 3
    have k4 : W1.cell? ⟨w.heap.size, 4, none⟩ = some (.int .u64 n) := cell_of1' (HC0.out W1 HW1.out) 4
    have g0 := HWK.out W1 (HBL.out _ HW1.out)
    have HO0 := Lib.hid (show (W1.alloc (.cells #[.string d0] 9)).ownsRow (w.heap.size + 1) 9 1 (.slice (some ⟨W1.heap.size, 0, none⟩) 1 1) 1 (strsA [d0]) from World.ownsRow_lit (base := w.heap.size + 1) (e := 9) (size := 1) W1 #[.string d0] 1 (by have := HW1.out.size; simpa using this) (by decide) rfl)
    have HWX := Lib.hid (show Below (w.heap.size + 1) (w.alloc (.cells #[.int .i64 6, .int .u64 b, .int .i64 c, .int .u64 o, .int .u64 n] 24)) (W1.alloc (.cells #[.string d0] 9)) from HW1.out.alloc (by have := HW1.out.size; simpa using this) _)
    have hq1 : w.heap.size < W1.heap.size := by have := HW1.out.size; simp at this; omega
    go_wp2_with fail
    clear k0 k1 k2 k3 k4 g0
    refine (HSB.out _ (HBL.out _ HWX.out)).mono ?_
    rintro e W2 ⟨rfl, hb⟩
    have HW2 := Lib.hid (HWX.out.trans (hb.mono (by have := HWX.out.size; simpa using this)))
    have HRW2 := Lib.hid ((own_bel HO0.out hb).alloc (.cells #[.string Db] 9))
    have hsz2 := HW2.out.size
    clear hb
    have k0 : W2.cell? ⟨w.heap.size, 0, none⟩ = some (.int .i64 6) := cell_of1' (HC0.out W2 HW2.out) 0
    have k1 : W2.cell? ⟨w.heap.size, 1, none⟩ = some (.int .u64 b) := cell_of1' (HC0.out W2 HW2.out) 1
    have k2 : W2.cell? ⟨w.heap.size, 2, none⟩ = some (.int .i64 c) := cell_of1' (HC0.out W2 HW2.out) 2
    have k3 : W2.cell? ⟨w.heap.size, 3, none⟩ = some (.int .u64 o) := cell_of1' (HC0.out W2 HW2.out) 3
    have k4 : W2.cell? ⟨w.heap.size, 4, none⟩ = some (.int .u64 n) := cell_of1' (HC0.out W2 HW2.out) 4
    go_wp2_with (at_builtin; refine wpList_append_lies _ rfl _ _ 70 rfl (w.heap.size + 1) 9 i0 (.string ⟨#[]⟩) 1 16 Tryd.underlying70 hi hz0 hz1 hz2 rfl (by decide) (.slice (some ⟨W1.heap.size, 0, none⟩) 1 1) 1 (strsA [d0]) rfl HRW2.out ⟨W2.heap.size, 0, none⟩ 1 1 [.string Db] rfl rfl (World.news_of_block (cs := #[.string Db]) (t := 9) (fr := (0, 0)) (heap_alloc_new W2 _)) (by simp [Value.oneCell']) (by omega) (by unfold maxLen; omega) (by omega) (by simp at hsz2 ⊢; omega) _ rfl ?_; intro g3 cap3 W3 hown hgrow hat hlt; have HO3 := Lib.hid (show W3.ownsRow (w.heap.size + 1) 9 1 (.slice (some ⟨g3, 0, none⟩) 2 cap3) 2 (strsA ([d0, Db])) from hown); have HW3 := Lib.hid ((HW2.out.alloc (by have := HW2.out.size; simpa using this) (.cells #[.string Db] 9)).grown hgrow (by have := HW2.out.size; simp at this ⊢; omega) (fun j hj => (World.ownsRow.lt HRW2.out j hj).1)); have k0 : W3.cell? ⟨w.heap.size, 0, none⟩ = some (.int .i64 6) := cell_of1' (HC0.out W3 HW3.out) 0; have k1 : W3.cell? ⟨w.heap.size, 1, none⟩ = some (.int .u64 b) := cell_of1' (HC0.out W3 HW3.out) 1; have k2 : W3.cell? ⟨w.heap.size, 2, none⟩ = some (.int .i64 c) := cell_of1' (HC0.out W3 HW3.out) 2; have k3 : W3.cell? ⟨w.heap.size, 3, none⟩ = some (.int .u64 o) := cell_of1' (HC0.out W3 HW3.out) 3; have k4 : W3.cell? ⟨w.heap.size, 4, none⟩ = some (.int .u64 n) := cell_of1' (HC0.out W3 HW3.out) 4; clear hown hgrow hat hlt)
    clear k0 k1 k2 k3 k4 hsz2
    refine (HWR.out _).mono ?_
    rintro e W4 ⟨rfl, hb⟩
    have HW4 := Lib.hid (HW3.out.trans (hb.mono (by have := HW3.out.size; simpa using this)))
    have HRW4 := Lib.hid (own_bel HO3.out hb)
    clear hb
    have k0 : W4.cell? ⟨w.heap.size, 0, none⟩ = some (.int .i64 6) := cell_of1' (HC0.out W4 HW4.out) 0
    have k1 : W4.cell? ⟨w.heap.size, 1, none⟩ = some (.int .u64 b) := cell_of1' (HC0.out W4 HW4.out) 1
    have k2 : W4.cell? ⟨w.heap.size, 2, none⟩ = some (.int .i64 c) := cell_of1' (HC0.out W4 HW4.out) 2
    have k3 : W4.cell? ⟨w.heap.size, 3, none⟩ = some (.int .u64 o) := cell_of1' (HC0.out W4 HW4.out) 3
    have k4 : W4.cell? ⟨w.heap.size, 4, none⟩ = some (.int .u64 n) := cell_of1' (HC0.out W4 HW4.out) 4
    go_wp2_with fail
    clear k0 k1 k2 k3 k4
    have HJ := Lib.hid (join_row (xs := [d0, Db]) HRW4.out rfl (by simp) (by rw [HTE.out]; have := HTL.out; omega) (by simp))
    rw [HTE.out] at HJ
    refine HJ.out.mono ?_
    rintro e W99 ⟨rfl, hb⟩
    have HZ := Lib.hid (HW4.out.trans (hb.mono (by have := HW4.out.size; simpa using this)))
    clear hb
    go_wp2_with fail
    go_ret
    exact ⟨rfl, HBL.out _ HZ.out⟩
end Go.Proofs.YtdibkhddhgaghaaDoor.Ac
