/- ref41.line: the walk. -/
import Derived.Test.YtdibkhddhgaghaaDoorHistTextP
import Derived.Test.YtdibkhddhgaghaaDoorHistMay
import Derived.Test.YtdibkhddhgaghaaDoorHistPrint
import Derived.Test.YtdibkhddhgaghaaDoorPartsW
import Derived.Test.YtdibkhddhgaghaaDoorHexaRef
import Derived.Test.YtdibkhddhgaghaaDoorRDig4
import Derived.Outline
namespace Go.Proofs.YtdibkhddhgaghaaDoor.Hs
open Go.RowKit Bq
set_option linter.unusedVariables false
set_option linter.unusedSimpArgs false
theorem parts_words (s : ByteArray) : Pt.parts 32 s = words s := words_inj (by rw [Pt.parts_data, words_data])
def RPost (ws : List ByteArray) (w : World) (e : Ending) (w' : World) : Prop := ∃ pv, e = .returned (.tuple #[encC (lineR ws).1 pv, .bool (lineR ws).2]) ∧ w'.ownsRow w.heap.size 95 2 pv (lineR ws).1.reply.pairs.length (cellsP (lineR ws).1.reply.pairs) ∧ Below w.heap.size w w'
theorem rzero_end {ws : List ByteArray} {w W : World} (hc : lineR ws = (zeroCall, false)) (hb : Below w.heap.size w W) : RPost ws w (.returned (.tuple #[.agg zeroC, .bool false])) W :=
  ⟨.slice none 0 0, by rw [hc]; rfl, by rw [hc]; exact World.ownsRow_nil _ _ _ _, hb⟩
theorem lineR_no {ws : List ByteArray} (h : (fit15 ws && pok ws ((ws.length - 15) / 2)) = false) : lineR ws = (zeroCall, false) := by
  unfold lineR; rw [h]; rfl
theorem lineR_no15 {ws : List ByteArray} (h : fit15 ws = false) : lineR ws = (zeroCall, false) := lineR_no (by rw [h]; rfl)
theorem okTo_mono {ws : List ByteArray} {k : Nat} : ∀ {m : Nat}, k ≤ m → okTo ws m = true → okTo ws k = true
  | 0, h, h1 => by obtain rfl : k = 0 := by omega
                   exact h1
  | m + 1, h, h1 => by
    by_cases e : k = m + 1
    · rw [e]; exact h1
    · unfold okTo at h1
      simp only [Bool.and_eq_true] at h1
      exact okTo_mono (m := m) (by omega) h1.1
theorem lineR_bad {ws : List ByteArray} {k : Nat} (hk : k < 15) (h : okW k (wAt ws k) = false) : lineR ws = (zeroCall, false) := by
  refine lineR_no15 ?_
  rw [← Bool.not_eq_true]
  intro hf
  unfold fit15 at hf
  simp only [Bool.and_eq_true] at hf
  have := okTo_mono (k := k + 1) (by omega) hf.1.2
  unfold okTo at this
  rw [h] at this
  simp at this
theorem pok_mono {ws : List ByteArray} {k : Nat} : ∀ {m : Nat}, k ≤ m → pok ws m = true → pok ws k = true
  | 0, h, h1 => by obtain rfl : k = 0 := by omega
                   exact h1
  | m + 1, h, h1 => by
    by_cases e : k = m + 1
    · rw [e]; exact h1
    · unfold pok at h1
      simp only [Bool.and_eq_true] at h1
      exact pok_mono (m := m) (by omega) h1.1
theorem lineR_badp {ws : List ByteArray} {k : Nat} (hk : k < (ws.length - 15) / 2) (h : (decide (Hxw.err (wAt ws (15 + 2 * k)) = 0) && decide (Hxw.err (wAt ws (15 + 2 * k + 1)) = 0)) = false) : lineR ws = (zeroCall, false) := by
  refine lineR_no ?_
  rw [← Bool.not_eq_true]
  intro hf
  simp only [Bool.and_eq_true] at hf
  have := pok_mono (k := k + 1) (by omega) hf.2
  unfold pok at this
  rw [h] at this
  simp at this
theorem row_cell {w : World} {base : Nat} {e : TypeId} {g n cap : Nat} {xs : List Value} (h : w.ownsRow base e 1 (.slice (some ⟨g, 0, none⟩) n cap) n xs) : g < w.heap.size ∧ ∀ j u, xs[j]? = some u → w.cell? ⟨g, j, none⟩ = some u :=
  ⟨(h.lt g rfl).2, fun j u hu => by
    have := World.ownsRow.cells h (g := g) rfl j u hu
    cases j <;> simpa [Addr.add] using this⟩
/-- The numbers and texts so far. -/
structure RN (w2 : World) (ws : List ByteArray) (k : Nat) (nv tv : Value) (wr : World) : Prop where
  n : wr.ownsRow w2.heap.size 3 1 nv (numsTo ws k).length ((numsTo ws k).map (Value.int .i64))
  t : wr.ownsRow w2.heap.size 9 1 tv (txtsTo ws k).length (strs (txtsTo ws k))
  sep : ∀ b, nv.ownBlock = some b → tv.ownBlock ≠ some b
  ok : okTo ws k = true
  below : Below w2.heap.size w2 wr
theorem numsTo_len (ws : List ByteArray) : ∀ k, (numsTo ws k).length ≤ k
  | 0 => Nat.le_refl _
  | k + 1 => by
    have := numsTo_len ws k
    unfold numsTo
    split
    · omega
    · rw [List.length_append, List.length_singleton]; omega
theorem txtsTo_len (ws : List ByteArray) : ∀ k, (txtsTo ws k).length ≤ k
  | 0 => Nat.le_refl _
  | k + 1 => by
    have := txtsTo_len ws k
    unfold txtsTo
    split
    · rw [List.length_append, List.length_singleton]; omega
    · omega
theorem RN.addT {w2 wr w5 w6 w9 : World} {ws : List ByteArray} {k g cap : Nat} {nv tv : Value} {u : ByteArray} (h : RN w2 ws k nv tv wr) (hb : Below wr.heap.size wr w5) (h6 : w6 = w5.alloc (.cells #[.string (Hxw.out u)] 9)) (hT : isT k = true) (hu : wAt ws k = u) (he : Hxw.err u = 0)
    (hown : w9.ownsRow w2.heap.size 9 1 (.slice (some ⟨g, 0, none⟩) ((txtsTo ws k).length + 1) cap) ((txtsTo ws k).length + 1) (strs (txtsTo ws k) ++ [.string (Hxw.out u)])) (hg : w6.grownBy w9 tv.ownBlock) (hat : tv.ownBlock = some g ∨ g = w6.heap.size) :
    RN w2 ws (k + 1) nv (.slice (some ⟨g, 0, none⟩) ((txtsTo ws k).length + 1) cap) w9 := by
  have hb6 : Below wr.heap.size wr w6 := by rw [h6]; exact hb.alloc hb.size _
  have hn : numsTo ws (k + 1) = numsTo ws k := by conv => lhs; unfold numsTo
                                                  rw [if_pos hT]
  have ht : txtsTo ws (k + 1) = txtsTo ws k ++ [Hxw.out u] := by conv => lhs; unfold txtsTo
                                                                 rw [if_pos hT, hu]
  refine ⟨?_, ?_, fun b hb' e => ?_, ?_, (h.below.trans (hb6.mono h.below.size)).grown hg (by have := h.below.size; have := hb6.size; omega) (fun b hb => (h.t.lt b hb).1)⟩
  · rw [hn]
    refine (own_fr' h.n hb6).kept hg ?_
    cases hq : nv.ownBlock with
    | none => exact Or.inl rfl
    | some b => exact Or.inr (fun e => h.sep b hq e.symm)
  · rw [ht]
    simpa [strs] using hown
  · simp only [Value.ownBlock, Option.some.injEq] at e
    rcases hat with h4 | h4
    · exact h.sep b hb' (by rw [h4, e])
    · have := (h.n.lt b hb').2; have := hb6.size; omega
  · show (okTo ws k && okW k (wAt ws k)) = true
    rw [h.ok, hu, okW_txt u hT, he]; rfl
theorem RN.addN {w2 wr w5 w6 w9 : World} {ws : List ByteArray} {k g cap : Nat} {nv tv : Value} {u : ByteArray} (h : RN w2 ws k nv tv wr) (hb : Below wr.heap.size wr w5) (h6 : w6 = w5.alloc (.cells #[.int .i64 (nmw u)] 3)) (hT : isT k = false) (hu : wAt ws k = u) (he : okW k u = true)
    (hown : w9.ownsRow w2.heap.size 3 1 (.slice (some ⟨g, 0, none⟩) ((numsTo ws k).length + 1) cap) ((numsTo ws k).length + 1) ((numsTo ws k).map (Value.int .i64) ++ [.int .i64 (nmw u)])) (hg : w6.grownBy w9 nv.ownBlock) (hat : nv.ownBlock = some g ∨ g = w6.heap.size) :
    RN w2 ws (k + 1) (.slice (some ⟨g, 0, none⟩) ((numsTo ws k).length + 1) cap) tv w9 := by
  have hb6 : Below wr.heap.size wr w6 := by rw [h6]; exact hb.alloc hb.size _
  have hn : numsTo ws (k + 1) = numsTo ws k ++ [nmw u] := by conv => lhs; unfold numsTo
                                                             rw [hT, hu]; rfl
  have ht : txtsTo ws (k + 1) = txtsTo ws k := by conv => lhs; unfold txtsTo
                                                  rw [hT]; rfl
  refine ⟨?_, ?_, fun b hb' e => ?_, ?_, (h.below.trans (hb6.mono h.below.size)).grown hg (by have := h.below.size; have := hb6.size; omega) (fun b hb => (h.n.lt b hb).1)⟩
  · rw [hn]
    simpa using hown
  · rw [ht]
    refine (own_fr' h.t hb6).kept hg ?_
    cases hq : tv.ownBlock with
    | none => exact Or.inl rfl
    | some b => exact Or.inr (fun e => h.sep b e.symm hq)
  · simp only [Value.ownBlock, Option.some.injEq] at hb'
    subst hb'
    rcases hat with h4 | h4
    · exact h.sep g h4 e
    · have := (h.t.lt g e).2; have := hb6.size; omega
  · show (okTo ws k && okW k (wAt ws k)) = true
    rw [h.ok, hu, he]; rfl
/-- Two rows' cells. -/
def TN (gn gt : Nat) (xs ys : List Value) (w' : World) : Prop := (∀ (j : Nat) u, xs[j]? = some u → w'.cell? ⟨gn, j, none⟩ = some u) ∧ ∀ (j : Nat) u, ys[j]? = some u → w'.cell? ⟨gt, j, none⟩ = some u
theorem hx_err (t : ByteArray) : Hxw.err t = 0 ∨ Hxw.err t = 3 := by unfold Hxw.err; split <;> simp
theorem dg_err (t : ByteArray) : (Dg.parse t.data.toList (-999999999999999999) 999999999999999999).2 = 0 ∨ (Dg.parse t.data.toList (-999999999999999999) 999999999999999999).2 ≠ 0 := by by_cases h : (Dg.parse t.data.toList (-999999999999999999) 999999999999999999).2 = 0 <;> simp [h]
theorem infoI' : (Tryd.prog.info? 3).map (fun i => (i.zero, i.size, i.bytes)) = some (some (.int .i64 0), 1, 8) := by kernel_rfl
theorem zero_one : (#[.int .i64 0, .int .i64 0, .int .i64 0, .string ⟨#[]⟩, .string ⟨#[]⟩, .string ⟨#[]⟩, .int .i64 0, .int .i64 0, .bool false, .int .i64 0, .bool false, .bool false, .string ⟨#[]⟩, .int .i64 0, .slice none 0 0] : Array Value).all (·.oneCell') = true := by simp [Value.oneCell']
theorem infoC1 : (Tryd.prog.info? 50).map (·.size) = some (#[.int .i64 0, .int .i64 0, .int .i64 0, .string ⟨#[]⟩, .string ⟨#[]⟩, .string ⟨#[]⟩, .int .i64 0, .int .i64 0, .bool false, .int .i64 0, .bool false, .bool false, .string ⟨#[]⟩, .int .i64 0, .slice none 0 0] : Array Value).size := by kernel_rfl
theorem owns_shape' {W : World} {base : Nat} {e : TypeId} {size : Nat} {v : Value} {k : Nat} {xs : List Value} (h : W.ownsRow base e size v k xs) : ∃ A cap, v = .slice A k cap := by
  obtain ⟨_, ⟨e, e0⟩ | ⟨g, cap', cur, e, _⟩⟩ := h
  · exact ⟨none, 0, by rw [e, e0]⟩
  · exact ⟨_, _, e⟩
theorem Wl (w : World) (a b : Obj) : w.heap.size < ((w.alloc a).alloc b).heap.size := by simp; omega
set_option maxRecDepth 100000 in
set_option maxHeartbeats 32000000 in
theorem rline_any (w : World) (s : ByteArray) (hs : s.size ≤ 1000000) :
    Calls Tryd.prog 54 #[.string s] w (RPost (words s) w) := by
  have HSP := Lib.hid (fun W => show Calls Tryd.prog 43 #[.string s, .int .u8 32] W fun e w' => ∃ v, e = .returned v ∧ w'.ownsRow W.heap.size 9 1 v (words s).length (strs (words s)) ∧ Below W.heap.size W w' from by
    have := Pt.parts_any W s 32 (by omega)
    rw [parts_words] at this
    exact this)
  have hwl : (words s).length ≤ 1000001 := by have := words_len s; have := words_count s; omega
  have HSM := Lib.hid (show ∀ t ∈ words s, t.size ≤ 1000000 from fun t ht => by
    have h1 : t.data.toList ∈ (words s).map (·.data.toList) := List.mem_map_of_mem ht
    rw [words_data] at h1
    have h2 := sp_small 32 _ s.data.toList (Nat.le_refl _) _ h1
    rw [DgW.size_list, DgW.size_list] at h2
    omega)
  have hw1 : 1 ≤ (words s).length := by have := words_len s; omega
  generalize words s = ws at *
  obtain ⟨i0, hi, hz0, hz1, hz2⟩ := info_parts infoS
  obtain ⟨j0, hj, hy0, hy1, hy2⟩ := info_parts infoI'
  clear hs
  go_enter Tryd.func54, Tryd.ntmps54
  go_wp2_with fail
  refine (HSP.out _).mono ?_
  rintro e w2 ⟨lv, rfl, hown, hb⟩
  obtain ⟨gl, cl, rfl⟩ := own_pos hown (by omega)
  have HB2 := Lib.hid hb
  have HLC := Lib.hid (row_cell hown)
  have hsz2 : w.heap.size + 1 ≤ w2.heap.size := by have := hb.size; simpa using this
  have HRB := Lib.hid (show ∀ W, Below w2.heap.size w2 W → W.heap[w.heap.size]? = some (.cells zeroC 50 (0, 0)) from fun W hW => (hW.block w.heap.size (by omega)).trans ((hb.block w.heap.size (by simp)).trans (heap_alloc_new w _)))
  unfold zeroC at HRB
  have HLB := Lib.hid (show ∀ W, Below w2.heap.size w2 W → ∀ (i : Nat) t, ws[i]? = some t → W.cell? ⟨gl, i, none⟩ = some (.string t) from fun W hW i t ht => (hW.cell (p := ⟨gl, i, none⟩) HLC.out.1).trans (HLC.out.2 i _ (by unfold strs; rw [List.getElem?_map, ht]; rfl)))
  have HB0 := Lib.hid (show ∀ W, Below w2.heap.size w2 W → Below w.heap.size w W from fun W hW => (((Below.refl _ _).alloc (Nat.le_refl _) _).trans (hb.mono (by simp))).trans (hW.mono (by omega)))
  have hbr2 := Below.refl w2.heap.size w2
  clear hown hb

  by_cases h15 : ws.length < 15
  · have b0 : decide ((ws.length : Int) < 15) = true := decide_eq_true (by omega)
    have HN := Lib.hid (lineR_no15 (ws := ws) (by unfold fit15; rw [decide_eq_false (by omega : ¬ 15 ≤ ws.length)]; rfl))

    clear h15
    go_wp2_with (refine wpList_store_row rfl 50 _ _ rfl w.heap.size #[.int .i64 0, .int .i64 0, .int .i64 0, .string ⟨#[]⟩, .string ⟨#[]⟩, .string ⟨#[]⟩, .int .i64 0, .int .i64 0, .bool false, .int .i64 0, .bool false, .bool false, .string ⟨#[]⟩, .int .i64 0, .slice none 0 0] rfl rfl 50 #[.int .i64 0, .int .i64 0, .int .i64 0, .string ⟨#[]⟩, .string ⟨#[]⟩, .string ⟨#[]⟩, .int .i64 0, .int .i64 0, .bool false, .int .i64 0, .bool false, .bool false, .string ⟨#[]⟩, .int .i64 0, .slice none 0 0] (HRB.out w2 (Below.refl _ _)) infoC1 rfl zero_one ?_; rw [setRow_self _ _ _ _ _ (HRB.out w2 (Below.refl _ _))])
    exact ⟨rfl, _, ret_call rfl (HRB.out w2 (Below.refl _ _)) rfl rfl, rzero_end (HN.out) (HB0.out w2 (Below.refl _ _))⟩
  have b0 : decide ((ws.length : Int) < 15) = false := decide_eq_false (by omega)
  by_cases hpar : ws.length % 2 = 0
  · have b1 : ((ws.length : Int) % 2 == 0) = true := by rw [beq_iff_eq]; omega
    have HN := Lib.hid (lineR_no15 (ws := ws) (by unfold fit15; rw [decide_eq_false (by omega : ¬ ws.length % 2 = 1)]; simp))

    clear h15 hpar
    go_wp2_with (refine wpList_store_row rfl 50 _ _ rfl w.heap.size #[.int .i64 0, .int .i64 0, .int .i64 0, .string ⟨#[]⟩, .string ⟨#[]⟩, .string ⟨#[]⟩, .int .i64 0, .int .i64 0, .bool false, .int .i64 0, .bool false, .bool false, .string ⟨#[]⟩, .int .i64 0, .slice none 0 0] rfl rfl 50 #[.int .i64 0, .int .i64 0, .int .i64 0, .string ⟨#[]⟩, .string ⟨#[]⟩, .string ⟨#[]⟩, .int .i64 0, .int .i64 0, .bool false, .int .i64 0, .bool false, .bool false, .string ⟨#[]⟩, .int .i64 0, .slice none 0 0] (HRB.out w2 (Below.refl _ _)) infoC1 rfl zero_one ?_; rw [setRow_self _ _ _ _ _ (HRB.out w2 (Below.refl _ _))])
    exact ⟨rfl, _, ret_call rfl (HRB.out w2 (Below.refl _ _)) rfl rfl, rzero_end (HN.out) (HB0.out w2 (Below.refl _ _))⟩
  have b1 : ((ws.length : Int) % 2 == 0) = false := by rw [beq_eq_false_iff_ne]; omega
  obtain ⟨m, hm⟩ : ∃ m, ws.length = 2 * m + 15 := ⟨(ws.length - 15) / 2, by omega⟩
  have HM := Lib.hid hm
  clear h15 hpar hm
  go_wp2_with fail
  have HR0 := Lib.hid (show RN w2 ws 0 (.slice (some ⟨w2.heap.size, 0, none⟩) 0 0) (.slice (some ⟨w2.heap.size + 1, 0, none⟩) 0 0) ((w2.alloc (.cells #[] 3)).alloc (.cells #[] 9)) from
    ⟨(World.ownsRow_lit (base := w2.heap.size) (e := 3) (size := 1) w2 #[] 0 (Nat.le_refl _) (by decide) rfl).alloc _, by
      have := World.ownsRow_lit (base := w2.heap.size) (e := 9) (size := 1) (w2.alloc (.cells #[] 3)) #[] 0 (by simp) (by decide) rfl
      rw [show (w2.alloc (.cells #[] 3)).heap.size = w2.heap.size + 1 by simp] at this
      exact this, fun b h1 h2 => by simp [Value.ownBlock] at h1 h2; omega, rfl, ((Below.refl _ _).alloc (Nat.le_refl _) _).alloc (by simp) _⟩)
  clear b0 b1
  go_loopw [5, 6, 7] (fun nv tv i wr => ∃ k : Nat, k ≤ 15 ∧ i = .int .i64 k ∧ RN w2 ws k nv tv wr) (fun _ _ i _ => 15 - (intOf i).toNat)
  case atStart => exact ⟨0, by omega, rfl, HR0.out⟩
  case round =>
    obtain ⟨k, hk, rfl, hR⟩ := hrel
    have HR := Lib.hid hR
    obtain ⟨NA, nc, rfl⟩ := owns_shape' hR.n
    obtain ⟨TA, tc, rfl⟩ := owns_shape' hR.t
    have hnl := numsTo_len ws k
    have htl := txtsTo_len ws k
    obtain ⟨Ln, hLn⟩ : ∃ x, x = (numsTo ws k).length := ⟨_, rfl⟩
    obtain ⟨Lt, hLt⟩ : ∃ x, x = (txtsTo ws k).length := ⟨_, rfl⟩
    rw [← hLn] at hnl HR ⊢
    rw [← hLt] at htl HR ⊢
    have HLn := Lib.hid hLn
    have HLt := Lib.hid hLt
    have hBw := hR.below
    have hbs := hR.below.size
    clear hR hLn hLt
    by_cases h15 : k < 15
    · have hkl : k < ws.length := by have := HM.out; omega
      obtain ⟨u, hu⟩ : ∃ u, ws[k]? = some u := ⟨_, List.getElem?_eq_getElem hkl⟩
      have HWA := Lib.hid (wAt_of hu)
      have hus : u.size ≤ 1000000 := HSM.out u (List.mem_of_getElem? hu)
      have s1 : wr.cell? ⟨gl, k, none⟩ = some (.string u) := HLB.out wr hBw k u hu
      have HP := Lib.hid (fun W => HxRef.parse_any u (by omega) W)
      have HD := Lib.hid (fun W => show Calls Tryd.prog 96 #[.string u, .int .i64 (-999999999999999999), .int .i64 999999999999999999] W fun e w' => e = .returned (.tuple #[.int .i64 (nmw u), .int .i64 (Dg.parse u.data.toList (-999999999999999999) 999999999999999999).2]) ∧ W = w' from DgR.parse_any u (-999999999999999999) 999999999999999999 (by omega) W)
      clear hu hus
      have hcls : (k = 3 ∨ k = 4 ∨ k = 5 ∨ k = 12) ∨ (k = 8 ∨ k = 10 ∨ k = 11) ∨ (k = 0 ∨ k = 1 ∨ k = 2 ∨ k = 6 ∨ k = 7 ∨ k = 9 ∨ k = 13 ∨ k = 14) := by omega
      rcases hcls with hT | hB | hN
      · skip
        rcases hT with rfl | rfl | rfl | rfl
        · obtain ⟨ou, hou⟩ : ∃ x, x = Hxw.out u := ⟨_, rfl⟩
          obtain ⟨eu, heu⟩ : ∃ x, x = Hxw.err u := ⟨_, rfl⟩
          rw [← hou, ← heu] at HP
          rcases hx_err u with he | he
          · rw [← heu] at he
            subst he
            have HSTP := Lib.hid (fun (w5 w9 : World) (g cap : Nat) (hb : Below wr.heap.size wr w5) => HR.out.addT (w9 := w9) (g := g) (cap := cap) (u := u) hb rfl rfl HWA.out heu.symm)
            rw [← hou, ← HLt.out] at HSTP
            clear hou heu
            go_wp2_with fail
            refine (HP.out _).mono ?_
            rintro e w5 ⟨rfl, hb5⟩
            have HB5 := Lib.hid hb5
            have HOV := Lib.hid ((own_fr' HR.out.t hb5).alloc (.cells #[.string ou] 9))
            rw [← HLt.out] at HOV
            have hb5s := hb5.size
            clear hb5 s1
            go_wp2_with (at_builtin; refine wpList_append_lies _ rfl _ _ 70 rfl w2.heap.size 9 i0 (.string ⟨#[]⟩) 1 16 Tryd.underlying70 hi hz0 hz1 hz2 rfl (by decide) (.slice TA Lt tc) Lt (strs (txtsTo ws 3)) rfl HOV.out ⟨w5.heap.size, 0, none⟩ 1 1 [.string ou] rfl rfl (World.news_of_block (cs := #[.string ou]) (t := 9) (fr := (0, 0)) (heap_alloc_new w5 _)) (by simp [Value.oneCell']) (by omega) (by unfold maxLen; omega) (by omega) (by simp; omega) ((w5.alloc (.cells #[.string ou] 9)).heap.size) rfl ?_; intro g cap w9 hown9 hgrow9 hat9 hlt9; have HS := Lib.hid (HSTP.out _ _ _ _ HB5.out hown9 hgrow9 hat9); clear hown9 hgrow9 hat9 hlt9)
            go_roundw
            case rel => exact ⟨4, by omega, by go_num, HS.out⟩
            case measure => first | omega | (simp [intOf]; done) | (simp [intOf]; omega)

          · have EU := Lib.hid he
            have HN := Lib.hid (lineR_bad (ws := ws) (k := 3) (by decide) (by rw [HWA.out, okW_txt u rfl, EU.out]; rfl))
            rw [← heu] at he
            subst he
            clear hou heu
            go_wp2_with fail
            refine (HP.out _).mono ?_
            rintro e w5 ⟨rfl, hb5⟩
            have HBW := Lib.hid (hBw.trans (hb5.mono hbs))
            clear hb5 s1 hBw
            go_wp2_with (refine wpList_store_row rfl 50 _ _ rfl w.heap.size #[.int .i64 0, .int .i64 0, .int .i64 0, .string ⟨#[]⟩, .string ⟨#[]⟩, .string ⟨#[]⟩, .int .i64 0, .int .i64 0, .bool false, .int .i64 0, .bool false, .bool false, .string ⟨#[]⟩, .int .i64 0, .slice none 0 0] rfl rfl 50 #[.int .i64 0, .int .i64 0, .int .i64 0, .string ⟨#[]⟩, .string ⟨#[]⟩, .string ⟨#[]⟩, .int .i64 0, .int .i64 0, .bool false, .int .i64 0, .bool false, .bool false, .string ⟨#[]⟩, .int .i64 0, .slice none 0 0] (HRB.out w5 HBW.out) infoC1 rfl zero_one ?_; rw [setRow_self _ _ _ _ _ (HRB.out w5 HBW.out)])
            exact ⟨rfl, _, ret_call rfl (HRB.out w5 HBW.out) rfl rfl, rzero_end (HN.out) (HB0.out w5 HBW.out)⟩

        · obtain ⟨ou, hou⟩ : ∃ x, x = Hxw.out u := ⟨_, rfl⟩
          obtain ⟨eu, heu⟩ : ∃ x, x = Hxw.err u := ⟨_, rfl⟩
          rw [← hou, ← heu] at HP
          rcases hx_err u with he | he
          · rw [← heu] at he
            subst he
            have HSTP := Lib.hid (fun (w5 w9 : World) (g cap : Nat) (hb : Below wr.heap.size wr w5) => HR.out.addT (w9 := w9) (g := g) (cap := cap) (u := u) hb rfl rfl HWA.out heu.symm)
            rw [← hou, ← HLt.out] at HSTP
            clear hou heu
            go_wp2_with fail
            refine (HP.out _).mono ?_
            rintro e w5 ⟨rfl, hb5⟩
            have HB5 := Lib.hid hb5
            have HOV := Lib.hid ((own_fr' HR.out.t hb5).alloc (.cells #[.string ou] 9))
            rw [← HLt.out] at HOV
            have hb5s := hb5.size
            clear hb5 s1
            go_wp2_with (at_builtin; refine wpList_append_lies _ rfl _ _ 70 rfl w2.heap.size 9 i0 (.string ⟨#[]⟩) 1 16 Tryd.underlying70 hi hz0 hz1 hz2 rfl (by decide) (.slice TA Lt tc) Lt (strs (txtsTo ws 4)) rfl HOV.out ⟨w5.heap.size, 0, none⟩ 1 1 [.string ou] rfl rfl (World.news_of_block (cs := #[.string ou]) (t := 9) (fr := (0, 0)) (heap_alloc_new w5 _)) (by simp [Value.oneCell']) (by omega) (by unfold maxLen; omega) (by omega) (by simp; omega) ((w5.alloc (.cells #[.string ou] 9)).heap.size) rfl ?_; intro g cap w9 hown9 hgrow9 hat9 hlt9; have HS := Lib.hid (HSTP.out _ _ _ _ HB5.out hown9 hgrow9 hat9); clear hown9 hgrow9 hat9 hlt9)
            go_roundw
            case rel => exact ⟨5, by omega, by go_num, HS.out⟩
            case measure => first | omega | (simp [intOf]; done) | (simp [intOf]; omega)

          · have EU := Lib.hid he
            have HN := Lib.hid (lineR_bad (ws := ws) (k := 4) (by decide) (by rw [HWA.out, okW_txt u rfl, EU.out]; rfl))
            rw [← heu] at he
            subst he
            clear hou heu
            go_wp2_with fail
            refine (HP.out _).mono ?_
            rintro e w5 ⟨rfl, hb5⟩
            have HBW := Lib.hid (hBw.trans (hb5.mono hbs))
            clear hb5 s1 hBw
            go_wp2_with (refine wpList_store_row rfl 50 _ _ rfl w.heap.size #[.int .i64 0, .int .i64 0, .int .i64 0, .string ⟨#[]⟩, .string ⟨#[]⟩, .string ⟨#[]⟩, .int .i64 0, .int .i64 0, .bool false, .int .i64 0, .bool false, .bool false, .string ⟨#[]⟩, .int .i64 0, .slice none 0 0] rfl rfl 50 #[.int .i64 0, .int .i64 0, .int .i64 0, .string ⟨#[]⟩, .string ⟨#[]⟩, .string ⟨#[]⟩, .int .i64 0, .int .i64 0, .bool false, .int .i64 0, .bool false, .bool false, .string ⟨#[]⟩, .int .i64 0, .slice none 0 0] (HRB.out w5 HBW.out) infoC1 rfl zero_one ?_; rw [setRow_self _ _ _ _ _ (HRB.out w5 HBW.out)])
            exact ⟨rfl, _, ret_call rfl (HRB.out w5 HBW.out) rfl rfl, rzero_end (HN.out) (HB0.out w5 HBW.out)⟩

        · obtain ⟨ou, hou⟩ : ∃ x, x = Hxw.out u := ⟨_, rfl⟩
          obtain ⟨eu, heu⟩ : ∃ x, x = Hxw.err u := ⟨_, rfl⟩
          rw [← hou, ← heu] at HP
          rcases hx_err u with he | he
          · rw [← heu] at he
            subst he
            have HSTP := Lib.hid (fun (w5 w9 : World) (g cap : Nat) (hb : Below wr.heap.size wr w5) => HR.out.addT (w9 := w9) (g := g) (cap := cap) (u := u) hb rfl rfl HWA.out heu.symm)
            rw [← hou, ← HLt.out] at HSTP
            clear hou heu
            go_wp2_with fail
            refine (HP.out _).mono ?_
            rintro e w5 ⟨rfl, hb5⟩
            have HB5 := Lib.hid hb5
            have HOV := Lib.hid ((own_fr' HR.out.t hb5).alloc (.cells #[.string ou] 9))
            rw [← HLt.out] at HOV
            have hb5s := hb5.size
            clear hb5 s1
            go_wp2_with (at_builtin; refine wpList_append_lies _ rfl _ _ 70 rfl w2.heap.size 9 i0 (.string ⟨#[]⟩) 1 16 Tryd.underlying70 hi hz0 hz1 hz2 rfl (by decide) (.slice TA Lt tc) Lt (strs (txtsTo ws 5)) rfl HOV.out ⟨w5.heap.size, 0, none⟩ 1 1 [.string ou] rfl rfl (World.news_of_block (cs := #[.string ou]) (t := 9) (fr := (0, 0)) (heap_alloc_new w5 _)) (by simp [Value.oneCell']) (by omega) (by unfold maxLen; omega) (by omega) (by simp; omega) ((w5.alloc (.cells #[.string ou] 9)).heap.size) rfl ?_; intro g cap w9 hown9 hgrow9 hat9 hlt9; have HS := Lib.hid (HSTP.out _ _ _ _ HB5.out hown9 hgrow9 hat9); clear hown9 hgrow9 hat9 hlt9)
            go_roundw
            case rel => exact ⟨6, by omega, by go_num, HS.out⟩
            case measure => first | omega | (simp [intOf]; done) | (simp [intOf]; omega)

          · have EU := Lib.hid he
            have HN := Lib.hid (lineR_bad (ws := ws) (k := 5) (by decide) (by rw [HWA.out, okW_txt u rfl, EU.out]; rfl))
            rw [← heu] at he
            subst he
            clear hou heu
            go_wp2_with fail
            refine (HP.out _).mono ?_
            rintro e w5 ⟨rfl, hb5⟩
            have HBW := Lib.hid (hBw.trans (hb5.mono hbs))
            clear hb5 s1 hBw
            go_wp2_with (refine wpList_store_row rfl 50 _ _ rfl w.heap.size #[.int .i64 0, .int .i64 0, .int .i64 0, .string ⟨#[]⟩, .string ⟨#[]⟩, .string ⟨#[]⟩, .int .i64 0, .int .i64 0, .bool false, .int .i64 0, .bool false, .bool false, .string ⟨#[]⟩, .int .i64 0, .slice none 0 0] rfl rfl 50 #[.int .i64 0, .int .i64 0, .int .i64 0, .string ⟨#[]⟩, .string ⟨#[]⟩, .string ⟨#[]⟩, .int .i64 0, .int .i64 0, .bool false, .int .i64 0, .bool false, .bool false, .string ⟨#[]⟩, .int .i64 0, .slice none 0 0] (HRB.out w5 HBW.out) infoC1 rfl zero_one ?_; rw [setRow_self _ _ _ _ _ (HRB.out w5 HBW.out)])
            exact ⟨rfl, _, ret_call rfl (HRB.out w5 HBW.out) rfl rfl, rzero_end (HN.out) (HB0.out w5 HBW.out)⟩

        · obtain ⟨ou, hou⟩ : ∃ x, x = Hxw.out u := ⟨_, rfl⟩
          obtain ⟨eu, heu⟩ : ∃ x, x = Hxw.err u := ⟨_, rfl⟩
          rw [← hou, ← heu] at HP
          rcases hx_err u with he | he
          · rw [← heu] at he
            subst he
            have HSTP := Lib.hid (fun (w5 w9 : World) (g cap : Nat) (hb : Below wr.heap.size wr w5) => HR.out.addT (w9 := w9) (g := g) (cap := cap) (u := u) hb rfl rfl HWA.out heu.symm)
            rw [← hou, ← HLt.out] at HSTP
            clear hou heu
            go_wp2_with fail
            refine (HP.out _).mono ?_
            rintro e w5 ⟨rfl, hb5⟩
            have HB5 := Lib.hid hb5
            have HOV := Lib.hid ((own_fr' HR.out.t hb5).alloc (.cells #[.string ou] 9))
            rw [← HLt.out] at HOV
            have hb5s := hb5.size
            clear hb5 s1
            go_wp2_with (at_builtin; refine wpList_append_lies _ rfl _ _ 70 rfl w2.heap.size 9 i0 (.string ⟨#[]⟩) 1 16 Tryd.underlying70 hi hz0 hz1 hz2 rfl (by decide) (.slice TA Lt tc) Lt (strs (txtsTo ws 12)) rfl HOV.out ⟨w5.heap.size, 0, none⟩ 1 1 [.string ou] rfl rfl (World.news_of_block (cs := #[.string ou]) (t := 9) (fr := (0, 0)) (heap_alloc_new w5 _)) (by simp [Value.oneCell']) (by omega) (by unfold maxLen; omega) (by omega) (by simp; omega) ((w5.alloc (.cells #[.string ou] 9)).heap.size) rfl ?_; intro g cap w9 hown9 hgrow9 hat9 hlt9; have HS := Lib.hid (HSTP.out _ _ _ _ HB5.out hown9 hgrow9 hat9); clear hown9 hgrow9 hat9 hlt9)
            go_roundw
            case rel => exact ⟨13, by omega, by go_num, HS.out⟩
            case measure => first | omega | (simp [intOf]; done) | (simp [intOf]; omega)

          · have EU := Lib.hid he
            have HN := Lib.hid (lineR_bad (ws := ws) (k := 12) (by decide) (by rw [HWA.out, okW_txt u rfl, EU.out]; rfl))
            rw [← heu] at he
            subst he
            clear hou heu
            go_wp2_with fail
            refine (HP.out _).mono ?_
            rintro e w5 ⟨rfl, hb5⟩
            have HBW := Lib.hid (hBw.trans (hb5.mono hbs))
            clear hb5 s1 hBw
            go_wp2_with (refine wpList_store_row rfl 50 _ _ rfl w.heap.size #[.int .i64 0, .int .i64 0, .int .i64 0, .string ⟨#[]⟩, .string ⟨#[]⟩, .string ⟨#[]⟩, .int .i64 0, .int .i64 0, .bool false, .int .i64 0, .bool false, .bool false, .string ⟨#[]⟩, .int .i64 0, .slice none 0 0] rfl rfl 50 #[.int .i64 0, .int .i64 0, .int .i64 0, .string ⟨#[]⟩, .string ⟨#[]⟩, .string ⟨#[]⟩, .int .i64 0, .int .i64 0, .bool false, .int .i64 0, .bool false, .bool false, .string ⟨#[]⟩, .int .i64 0, .slice none 0 0] (HRB.out w5 HBW.out) infoC1 rfl zero_one ?_; rw [setRow_self _ _ _ _ _ (HRB.out w5 HBW.out)])
            exact ⟨rfl, _, ret_call rfl (HRB.out w5 HBW.out) rfl rfl, rzero_end (HN.out) (HB0.out w5 HBW.out)⟩

      · skip
        rcases hB with rfl | rfl | rfl
        · obtain ⟨eu, heu⟩ : ∃ x, x = (Dg.parse u.data.toList (-999999999999999999) 999999999999999999).2 := ⟨_, rfl⟩
          rw [← heu] at HD
          by_cases he : eu = 0
          · have hnme : nme u = true := by unfold nme; rw [← heu, he]; rfl
            subst he
            clear heu
            by_cases h0 : nmw u = 0
            · have hxu := h0
              rw [hxu] at HD
              have HSTP := Lib.hid (fun (w9 : World) (g cap : Nat) => HR.out.addN (w9 := w9) (g := g) (cap := cap) (u := u) (Below.refl _ _) rfl rfl HWA.out (by rw [okW_bit u rfl rfl, hnme, hxu]; rfl))
              have HOV := Lib.hid (HR.out.n.alloc (.cells #[.int .i64 (nmw u)] 3))
              rw [hxu, ← HLn.out] at HSTP
              rw [hxu, ← HLn.out] at HOV
              clear hxu h0 hnme
              go_wp2_with fail
              refine (HD.out _).mono ?_
              rintro e w5 ⟨rfl, rfl⟩
              go_wp2_with (at_builtin; refine wpList_append_lies _ rfl _ _ 52 rfl w2.heap.size 3 j0 (.int .i64 0) 1 8 Tryd.underlying52 hj hy0 hy1 hy2 rfl (by decide) (.slice NA Ln nc) Ln ((numsTo ws 8).map (Value.int .i64)) rfl HOV.out ⟨wr.heap.size, 0, none⟩ 1 1 [.int .i64 0] rfl rfl (World.news_of_block (cs := #[.int .i64 0]) (t := 3) (fr := (0, 0)) (heap_alloc_new wr _)) (by simp [Value.oneCell']) (by omega) (by unfold maxLen; omega) (by omega) (by simp; omega) ((wr.alloc (.cells #[.int .i64 0] 3)).heap.size) rfl ?_; intro g cap w9 hown9 hgrow9 hat9 hlt9; have HS := Lib.hid (HSTP.out _ _ _ hown9 hgrow9 hat9); clear hown9 hgrow9 hat9 hlt9)
              go_roundw
              case rel => exact ⟨9, by omega, by go_num, HS.out⟩
              case measure => first | omega | (simp [intOf]; done) | (simp [intOf]; omega)

            by_cases h1 : nmw u = 1
            · have hxu := h1
              rw [hxu] at HD
              have HSTP := Lib.hid (fun (w9 : World) (g cap : Nat) => HR.out.addN (w9 := w9) (g := g) (cap := cap) (u := u) (Below.refl _ _) rfl rfl HWA.out (by rw [okW_bit u rfl rfl, hnme, hxu]; rfl))
              have HOV := Lib.hid (HR.out.n.alloc (.cells #[.int .i64 (nmw u)] 3))
              rw [hxu, ← HLn.out] at HSTP
              rw [hxu, ← HLn.out] at HOV
              clear hxu h0 h1 hnme
              go_wp2_with fail
              refine (HD.out _).mono ?_
              rintro e w5 ⟨rfl, rfl⟩
              go_wp2_with (at_builtin; refine wpList_append_lies _ rfl _ _ 52 rfl w2.heap.size 3 j0 (.int .i64 0) 1 8 Tryd.underlying52 hj hy0 hy1 hy2 rfl (by decide) (.slice NA Ln nc) Ln ((numsTo ws 8).map (Value.int .i64)) rfl HOV.out ⟨wr.heap.size, 0, none⟩ 1 1 [.int .i64 1] rfl rfl (World.news_of_block (cs := #[.int .i64 1]) (t := 3) (fr := (0, 0)) (heap_alloc_new wr _)) (by simp [Value.oneCell']) (by omega) (by unfold maxLen; omega) (by omega) (by simp; omega) ((wr.alloc (.cells #[.int .i64 1] 3)).heap.size) rfl ?_; intro g cap w9 hown9 hgrow9 hat9 hlt9; have HS := Lib.hid (HSTP.out _ _ _ hown9 hgrow9 hat9); clear hown9 hgrow9 hat9 hlt9)
              go_roundw
              case rel => exact ⟨9, by omega, by go_num, HS.out⟩
              case measure => first | omega | (simp [intOf]; done) | (simp [intOf]; omega)

            have d0 : (nmw u != 0) = true := by simpa using h0
            have d1 : (nmw u != 1) = true := by simpa using h1
            have HN := Lib.hid (lineR_bad (ws := ws) (k := 8) (by omega) (by rw [HWA.out, okW_bit u rfl rfl, decide_eq_false h0, decide_eq_false h1]; simp))
            obtain ⟨xu, hxu⟩ : ∃ x, x = nmw u := ⟨_, rfl⟩
            rw [← hxu] at d0 d1 h0 h1 HD
            clear hxu hnme

            have HBW := Lib.hid hBw
            clear hBw
            go_wp2_with fail
            refine (HD.out _).mono ?_
            rintro e w5 ⟨rfl, rfl⟩
            go_wp2_with (refine wpList_store_row rfl 50 _ _ rfl w.heap.size #[.int .i64 0, .int .i64 0, .int .i64 0, .string ⟨#[]⟩, .string ⟨#[]⟩, .string ⟨#[]⟩, .int .i64 0, .int .i64 0, .bool false, .int .i64 0, .bool false, .bool false, .string ⟨#[]⟩, .int .i64 0, .slice none 0 0] rfl rfl 50 #[.int .i64 0, .int .i64 0, .int .i64 0, .string ⟨#[]⟩, .string ⟨#[]⟩, .string ⟨#[]⟩, .int .i64 0, .int .i64 0, .bool false, .int .i64 0, .bool false, .bool false, .string ⟨#[]⟩, .int .i64 0, .slice none 0 0] (HRB.out wr HBW.out) infoC1 rfl zero_one ?_; rw [setRow_self _ _ _ _ _ (HRB.out wr HBW.out)])
            exact ⟨rfl, _, ret_call rfl (HRB.out wr HBW.out) rfl rfl, rzero_end (HN.out) (HB0.out wr HBW.out)⟩

          · have hnme : nme u = false := by unfold nme; rw [← heu]; exact decide_eq_false he
            have d0 : (eu != 0) = true := by simpa using he
            clear heu
            have HN := Lib.hid (lineR_bad (ws := ws) (k := 8) (by omega) (by rw [HWA.out, okW_bit u rfl rfl, hnme]; rfl))
            clear hnme

            have HBW := Lib.hid hBw
            clear hBw
            go_wp2_with fail
            refine (HD.out _).mono ?_
            rintro e w5 ⟨rfl, rfl⟩
            go_wp2_with (refine wpList_store_row rfl 50 _ _ rfl w.heap.size #[.int .i64 0, .int .i64 0, .int .i64 0, .string ⟨#[]⟩, .string ⟨#[]⟩, .string ⟨#[]⟩, .int .i64 0, .int .i64 0, .bool false, .int .i64 0, .bool false, .bool false, .string ⟨#[]⟩, .int .i64 0, .slice none 0 0] rfl rfl 50 #[.int .i64 0, .int .i64 0, .int .i64 0, .string ⟨#[]⟩, .string ⟨#[]⟩, .string ⟨#[]⟩, .int .i64 0, .int .i64 0, .bool false, .int .i64 0, .bool false, .bool false, .string ⟨#[]⟩, .int .i64 0, .slice none 0 0] (HRB.out wr HBW.out) infoC1 rfl zero_one ?_; rw [setRow_self _ _ _ _ _ (HRB.out wr HBW.out)])
            exact ⟨rfl, _, ret_call rfl (HRB.out wr HBW.out) rfl rfl, rzero_end (HN.out) (HB0.out wr HBW.out)⟩

        · obtain ⟨eu, heu⟩ : ∃ x, x = (Dg.parse u.data.toList (-999999999999999999) 999999999999999999).2 := ⟨_, rfl⟩
          rw [← heu] at HD
          by_cases he : eu = 0
          · have hnme : nme u = true := by unfold nme; rw [← heu, he]; rfl
            subst he
            clear heu
            by_cases h0 : nmw u = 0
            · have hxu := h0
              rw [hxu] at HD
              have HSTP := Lib.hid (fun (w9 : World) (g cap : Nat) => HR.out.addN (w9 := w9) (g := g) (cap := cap) (u := u) (Below.refl _ _) rfl rfl HWA.out (by rw [okW_bit u rfl rfl, hnme, hxu]; rfl))
              have HOV := Lib.hid (HR.out.n.alloc (.cells #[.int .i64 (nmw u)] 3))
              rw [hxu, ← HLn.out] at HSTP
              rw [hxu, ← HLn.out] at HOV
              clear hxu h0 hnme
              go_wp2_with fail
              refine (HD.out _).mono ?_
              rintro e w5 ⟨rfl, rfl⟩
              go_wp2_with (at_builtin; refine wpList_append_lies _ rfl _ _ 52 rfl w2.heap.size 3 j0 (.int .i64 0) 1 8 Tryd.underlying52 hj hy0 hy1 hy2 rfl (by decide) (.slice NA Ln nc) Ln ((numsTo ws 10).map (Value.int .i64)) rfl HOV.out ⟨wr.heap.size, 0, none⟩ 1 1 [.int .i64 0] rfl rfl (World.news_of_block (cs := #[.int .i64 0]) (t := 3) (fr := (0, 0)) (heap_alloc_new wr _)) (by simp [Value.oneCell']) (by omega) (by unfold maxLen; omega) (by omega) (by simp; omega) ((wr.alloc (.cells #[.int .i64 0] 3)).heap.size) rfl ?_; intro g cap w9 hown9 hgrow9 hat9 hlt9; have HS := Lib.hid (HSTP.out _ _ _ hown9 hgrow9 hat9); clear hown9 hgrow9 hat9 hlt9)
              go_roundw
              case rel => exact ⟨11, by omega, by go_num, HS.out⟩
              case measure => first | omega | (simp [intOf]; done) | (simp [intOf]; omega)

            by_cases h1 : nmw u = 1
            · have hxu := h1
              rw [hxu] at HD
              have HSTP := Lib.hid (fun (w9 : World) (g cap : Nat) => HR.out.addN (w9 := w9) (g := g) (cap := cap) (u := u) (Below.refl _ _) rfl rfl HWA.out (by rw [okW_bit u rfl rfl, hnme, hxu]; rfl))
              have HOV := Lib.hid (HR.out.n.alloc (.cells #[.int .i64 (nmw u)] 3))
              rw [hxu, ← HLn.out] at HSTP
              rw [hxu, ← HLn.out] at HOV
              clear hxu h0 h1 hnme
              go_wp2_with fail
              refine (HD.out _).mono ?_
              rintro e w5 ⟨rfl, rfl⟩
              go_wp2_with (at_builtin; refine wpList_append_lies _ rfl _ _ 52 rfl w2.heap.size 3 j0 (.int .i64 0) 1 8 Tryd.underlying52 hj hy0 hy1 hy2 rfl (by decide) (.slice NA Ln nc) Ln ((numsTo ws 10).map (Value.int .i64)) rfl HOV.out ⟨wr.heap.size, 0, none⟩ 1 1 [.int .i64 1] rfl rfl (World.news_of_block (cs := #[.int .i64 1]) (t := 3) (fr := (0, 0)) (heap_alloc_new wr _)) (by simp [Value.oneCell']) (by omega) (by unfold maxLen; omega) (by omega) (by simp; omega) ((wr.alloc (.cells #[.int .i64 1] 3)).heap.size) rfl ?_; intro g cap w9 hown9 hgrow9 hat9 hlt9; have HS := Lib.hid (HSTP.out _ _ _ hown9 hgrow9 hat9); clear hown9 hgrow9 hat9 hlt9)
              go_roundw
              case rel => exact ⟨11, by omega, by go_num, HS.out⟩
              case measure => first | omega | (simp [intOf]; done) | (simp [intOf]; omega)

            have d0 : (nmw u != 0) = true := by simpa using h0
            have d1 : (nmw u != 1) = true := by simpa using h1
            have HN := Lib.hid (lineR_bad (ws := ws) (k := 10) (by omega) (by rw [HWA.out, okW_bit u rfl rfl, decide_eq_false h0, decide_eq_false h1]; simp))
            obtain ⟨xu, hxu⟩ : ∃ x, x = nmw u := ⟨_, rfl⟩
            rw [← hxu] at d0 d1 h0 h1 HD
            clear hxu hnme

            have HBW := Lib.hid hBw
            clear hBw
            go_wp2_with fail
            refine (HD.out _).mono ?_
            rintro e w5 ⟨rfl, rfl⟩
            go_wp2_with (refine wpList_store_row rfl 50 _ _ rfl w.heap.size #[.int .i64 0, .int .i64 0, .int .i64 0, .string ⟨#[]⟩, .string ⟨#[]⟩, .string ⟨#[]⟩, .int .i64 0, .int .i64 0, .bool false, .int .i64 0, .bool false, .bool false, .string ⟨#[]⟩, .int .i64 0, .slice none 0 0] rfl rfl 50 #[.int .i64 0, .int .i64 0, .int .i64 0, .string ⟨#[]⟩, .string ⟨#[]⟩, .string ⟨#[]⟩, .int .i64 0, .int .i64 0, .bool false, .int .i64 0, .bool false, .bool false, .string ⟨#[]⟩, .int .i64 0, .slice none 0 0] (HRB.out wr HBW.out) infoC1 rfl zero_one ?_; rw [setRow_self _ _ _ _ _ (HRB.out wr HBW.out)])
            exact ⟨rfl, _, ret_call rfl (HRB.out wr HBW.out) rfl rfl, rzero_end (HN.out) (HB0.out wr HBW.out)⟩

          · have hnme : nme u = false := by unfold nme; rw [← heu]; exact decide_eq_false he
            have d0 : (eu != 0) = true := by simpa using he
            clear heu
            have HN := Lib.hid (lineR_bad (ws := ws) (k := 10) (by omega) (by rw [HWA.out, okW_bit u rfl rfl, hnme]; rfl))
            clear hnme

            have HBW := Lib.hid hBw
            clear hBw
            go_wp2_with fail
            refine (HD.out _).mono ?_
            rintro e w5 ⟨rfl, rfl⟩
            go_wp2_with (refine wpList_store_row rfl 50 _ _ rfl w.heap.size #[.int .i64 0, .int .i64 0, .int .i64 0, .string ⟨#[]⟩, .string ⟨#[]⟩, .string ⟨#[]⟩, .int .i64 0, .int .i64 0, .bool false, .int .i64 0, .bool false, .bool false, .string ⟨#[]⟩, .int .i64 0, .slice none 0 0] rfl rfl 50 #[.int .i64 0, .int .i64 0, .int .i64 0, .string ⟨#[]⟩, .string ⟨#[]⟩, .string ⟨#[]⟩, .int .i64 0, .int .i64 0, .bool false, .int .i64 0, .bool false, .bool false, .string ⟨#[]⟩, .int .i64 0, .slice none 0 0] (HRB.out wr HBW.out) infoC1 rfl zero_one ?_; rw [setRow_self _ _ _ _ _ (HRB.out wr HBW.out)])
            exact ⟨rfl, _, ret_call rfl (HRB.out wr HBW.out) rfl rfl, rzero_end (HN.out) (HB0.out wr HBW.out)⟩

        · obtain ⟨eu, heu⟩ : ∃ x, x = (Dg.parse u.data.toList (-999999999999999999) 999999999999999999).2 := ⟨_, rfl⟩
          rw [← heu] at HD
          by_cases he : eu = 0
          · have hnme : nme u = true := by unfold nme; rw [← heu, he]; rfl
            subst he
            clear heu
            by_cases h0 : nmw u = 0
            · have hxu := h0
              rw [hxu] at HD
              have HSTP := Lib.hid (fun (w9 : World) (g cap : Nat) => HR.out.addN (w9 := w9) (g := g) (cap := cap) (u := u) (Below.refl _ _) rfl rfl HWA.out (by rw [okW_bit u rfl rfl, hnme, hxu]; rfl))
              have HOV := Lib.hid (HR.out.n.alloc (.cells #[.int .i64 (nmw u)] 3))
              rw [hxu, ← HLn.out] at HSTP
              rw [hxu, ← HLn.out] at HOV
              clear hxu h0 hnme
              go_wp2_with fail
              refine (HD.out _).mono ?_
              rintro e w5 ⟨rfl, rfl⟩
              go_wp2_with (at_builtin; refine wpList_append_lies _ rfl _ _ 52 rfl w2.heap.size 3 j0 (.int .i64 0) 1 8 Tryd.underlying52 hj hy0 hy1 hy2 rfl (by decide) (.slice NA Ln nc) Ln ((numsTo ws 11).map (Value.int .i64)) rfl HOV.out ⟨wr.heap.size, 0, none⟩ 1 1 [.int .i64 0] rfl rfl (World.news_of_block (cs := #[.int .i64 0]) (t := 3) (fr := (0, 0)) (heap_alloc_new wr _)) (by simp [Value.oneCell']) (by omega) (by unfold maxLen; omega) (by omega) (by simp; omega) ((wr.alloc (.cells #[.int .i64 0] 3)).heap.size) rfl ?_; intro g cap w9 hown9 hgrow9 hat9 hlt9; have HS := Lib.hid (HSTP.out _ _ _ hown9 hgrow9 hat9); clear hown9 hgrow9 hat9 hlt9)
              go_roundw
              case rel => exact ⟨12, by omega, by go_num, HS.out⟩
              case measure => first | omega | (simp [intOf]; done) | (simp [intOf]; omega)

            by_cases h1 : nmw u = 1
            · have hxu := h1
              rw [hxu] at HD
              have HSTP := Lib.hid (fun (w9 : World) (g cap : Nat) => HR.out.addN (w9 := w9) (g := g) (cap := cap) (u := u) (Below.refl _ _) rfl rfl HWA.out (by rw [okW_bit u rfl rfl, hnme, hxu]; rfl))
              have HOV := Lib.hid (HR.out.n.alloc (.cells #[.int .i64 (nmw u)] 3))
              rw [hxu, ← HLn.out] at HSTP
              rw [hxu, ← HLn.out] at HOV
              clear hxu h0 h1 hnme
              go_wp2_with fail
              refine (HD.out _).mono ?_
              rintro e w5 ⟨rfl, rfl⟩
              go_wp2_with (at_builtin; refine wpList_append_lies _ rfl _ _ 52 rfl w2.heap.size 3 j0 (.int .i64 0) 1 8 Tryd.underlying52 hj hy0 hy1 hy2 rfl (by decide) (.slice NA Ln nc) Ln ((numsTo ws 11).map (Value.int .i64)) rfl HOV.out ⟨wr.heap.size, 0, none⟩ 1 1 [.int .i64 1] rfl rfl (World.news_of_block (cs := #[.int .i64 1]) (t := 3) (fr := (0, 0)) (heap_alloc_new wr _)) (by simp [Value.oneCell']) (by omega) (by unfold maxLen; omega) (by omega) (by simp; omega) ((wr.alloc (.cells #[.int .i64 1] 3)).heap.size) rfl ?_; intro g cap w9 hown9 hgrow9 hat9 hlt9; have HS := Lib.hid (HSTP.out _ _ _ hown9 hgrow9 hat9); clear hown9 hgrow9 hat9 hlt9)
              go_roundw
              case rel => exact ⟨12, by omega, by go_num, HS.out⟩
              case measure => first | omega | (simp [intOf]; done) | (simp [intOf]; omega)

            have d0 : (nmw u != 0) = true := by simpa using h0
            have d1 : (nmw u != 1) = true := by simpa using h1
            have HN := Lib.hid (lineR_bad (ws := ws) (k := 11) (by omega) (by rw [HWA.out, okW_bit u rfl rfl, decide_eq_false h0, decide_eq_false h1]; simp))
            obtain ⟨xu, hxu⟩ : ∃ x, x = nmw u := ⟨_, rfl⟩
            rw [← hxu] at d0 d1 h0 h1 HD
            clear hxu hnme

            have HBW := Lib.hid hBw
            clear hBw
            go_wp2_with fail
            refine (HD.out _).mono ?_
            rintro e w5 ⟨rfl, rfl⟩
            go_wp2_with (refine wpList_store_row rfl 50 _ _ rfl w.heap.size #[.int .i64 0, .int .i64 0, .int .i64 0, .string ⟨#[]⟩, .string ⟨#[]⟩, .string ⟨#[]⟩, .int .i64 0, .int .i64 0, .bool false, .int .i64 0, .bool false, .bool false, .string ⟨#[]⟩, .int .i64 0, .slice none 0 0] rfl rfl 50 #[.int .i64 0, .int .i64 0, .int .i64 0, .string ⟨#[]⟩, .string ⟨#[]⟩, .string ⟨#[]⟩, .int .i64 0, .int .i64 0, .bool false, .int .i64 0, .bool false, .bool false, .string ⟨#[]⟩, .int .i64 0, .slice none 0 0] (HRB.out wr HBW.out) infoC1 rfl zero_one ?_; rw [setRow_self _ _ _ _ _ (HRB.out wr HBW.out)])
            exact ⟨rfl, _, ret_call rfl (HRB.out wr HBW.out) rfl rfl, rzero_end (HN.out) (HB0.out wr HBW.out)⟩

          · have hnme : nme u = false := by unfold nme; rw [← heu]; exact decide_eq_false he
            have d0 : (eu != 0) = true := by simpa using he
            clear heu
            have HN := Lib.hid (lineR_bad (ws := ws) (k := 11) (by omega) (by rw [HWA.out, okW_bit u rfl rfl, hnme]; rfl))
            clear hnme

            have HBW := Lib.hid hBw
            clear hBw
            go_wp2_with fail
            refine (HD.out _).mono ?_
            rintro e w5 ⟨rfl, rfl⟩
            go_wp2_with (refine wpList_store_row rfl 50 _ _ rfl w.heap.size #[.int .i64 0, .int .i64 0, .int .i64 0, .string ⟨#[]⟩, .string ⟨#[]⟩, .string ⟨#[]⟩, .int .i64 0, .int .i64 0, .bool false, .int .i64 0, .bool false, .bool false, .string ⟨#[]⟩, .int .i64 0, .slice none 0 0] rfl rfl 50 #[.int .i64 0, .int .i64 0, .int .i64 0, .string ⟨#[]⟩, .string ⟨#[]⟩, .string ⟨#[]⟩, .int .i64 0, .int .i64 0, .bool false, .int .i64 0, .bool false, .bool false, .string ⟨#[]⟩, .int .i64 0, .slice none 0 0] (HRB.out wr HBW.out) infoC1 rfl zero_one ?_; rw [setRow_self _ _ _ _ _ (HRB.out wr HBW.out)])
            exact ⟨rfl, _, ret_call rfl (HRB.out wr HBW.out) rfl rfl, rzero_end (HN.out) (HB0.out wr HBW.out)⟩

      · skip
        have hTk : isT k = false := by rcases hN with rfl | rfl | rfl | rfl | rfl | rfl | rfl | rfl <;> rfl
        have hBk : isB k = false := by rcases hN with rfl | rfl | rfl | rfl | rfl | rfl | rfl | rfl <;> rfl
        have c3 : ((k : Int) == 3) = false := by rw [beq_eq_false_iff_ne]; omega
        have c4 : ((k : Int) == 4) = false := by rw [beq_eq_false_iff_ne]; omega
        have c5 : ((k : Int) == 5) = false := by rw [beq_eq_false_iff_ne]; omega
        have c12 : ((k : Int) == 12) = false := by rw [beq_eq_false_iff_ne]; omega
        have c8 : ((k : Int) == 8) = false := by rw [beq_eq_false_iff_ne]; omega
        have c10 : ((k : Int) == 10) = false := by rw [beq_eq_false_iff_ne]; omega
        have c11 : ((k : Int) == 11) = false := by rw [beq_eq_false_iff_ne]; omega
        clear hN
        obtain ⟨eu, heu⟩ : ∃ x, x = (Dg.parse u.data.toList (-999999999999999999) 999999999999999999).2 := ⟨_, rfl⟩
        rw [← heu] at HD
        by_cases he : eu = 0
        · have hnme : nme u = true := by unfold nme; rw [← heu, he]; rfl
          subst he
          clear heu
          obtain ⟨xu, hxu⟩ : ∃ x, x = nmw u := ⟨_, rfl⟩
          rw [← hxu] at HD
          have HSTP := Lib.hid (fun (w9 : World) (g cap : Nat) => HR.out.addN (w9 := w9) (g := g) (cap := cap) (u := u) (Below.refl _ _) rfl hTk HWA.out (by rw [okW_num u hTk hBk, hnme]))
          have HOV := Lib.hid (HR.out.n.alloc (.cells #[.int .i64 (nmw u)] 3))
          rw [← hxu, ← HLn.out] at HSTP
          rw [← hxu, ← HLn.out] at HOV
          clear hxu hnme hTk hBk
          go_wp2_with fail
          refine (HD.out _).mono ?_
          rintro e w5 ⟨rfl, rfl⟩
          go_wp2_with (at_builtin; refine wpList_append_lies _ rfl _ _ 52 rfl w2.heap.size 3 j0 (.int .i64 0) 1 8 Tryd.underlying52 hj hy0 hy1 hy2 rfl (by decide) (.slice NA Ln nc) Ln ((numsTo ws k).map (Value.int .i64)) rfl HOV.out ⟨wr.heap.size, 0, none⟩ 1 1 [.int .i64 xu] rfl rfl (World.news_of_block (cs := #[.int .i64 xu]) (t := 3) (fr := (0, 0)) (heap_alloc_new wr _)) (by simp [Value.oneCell']) (by omega) (by unfold maxLen; omega) (by omega) (by simp; omega) ((wr.alloc (.cells #[.int .i64 xu] 3)).heap.size) rfl ?_; intro g cap w9 hown9 hgrow9 hat9 hlt9; have HS := Lib.hid (HSTP.out _ _ _ hown9 hgrow9 hat9); clear hown9 hgrow9 hat9 hlt9)
          go_roundw
          case rel => exact ⟨k+ 1, by omega, by go_num, HS.out⟩
          case measure => first | omega | (simp [intOf]; done) | (simp [intOf]; omega)

        · have hnme : nme u = false := by unfold nme; rw [← heu]; exact decide_eq_false he
          have d0 : (eu != 0) = true := by simpa using he
          clear heu
          have HN := Lib.hid (lineR_bad (ws := ws) (k := k) (by omega) (by rw [HWA.out, okW_num u hTk hBk, hnme]))
          clear hnme hTk hBk

          have HBW := Lib.hid hBw
          clear hBw
          go_wp2_with fail
          refine (HD.out _).mono ?_
          rintro e w5 ⟨rfl, rfl⟩
          go_wp2_with (refine wpList_store_row rfl 50 _ _ rfl w.heap.size #[.int .i64 0, .int .i64 0, .int .i64 0, .string ⟨#[]⟩, .string ⟨#[]⟩, .string ⟨#[]⟩, .int .i64 0, .int .i64 0, .bool false, .int .i64 0, .bool false, .bool false, .string ⟨#[]⟩, .int .i64 0, .slice none 0 0] rfl rfl 50 #[.int .i64 0, .int .i64 0, .int .i64 0, .string ⟨#[]⟩, .string ⟨#[]⟩, .string ⟨#[]⟩, .int .i64 0, .int .i64 0, .bool false, .int .i64 0, .bool false, .bool false, .string ⟨#[]⟩, .int .i64 0, .slice none 0 0] (HRB.out wr HBW.out) infoC1 rfl zero_one ?_; rw [setRow_self _ _ _ _ _ (HRB.out wr HBW.out)])
          exact ⟨rfl, _, ret_call rfl (HRB.out wr HBW.out) rfl rfl, rzero_end (HN.out) (HB0.out wr HBW.out)⟩

    · skip
      obtain rfl : k = 15 := by omega
      obtain rfl : Ln = 11 := by rw [HLn.out]; rfl
      obtain rfl : Lt = 4 := by rw [HLt.out]; rfl
      obtain ⟨x0, hx0⟩ : ∃ x, x = nmw (wAt ws 0) := ⟨_, rfl⟩
      obtain ⟨x1, hx1⟩ : ∃ x, x = nmw (wAt ws 1) := ⟨_, rfl⟩
      obtain ⟨x2, hx2⟩ : ∃ x, x = nmw (wAt ws 2) := ⟨_, rfl⟩
      obtain ⟨x3, hx3⟩ : ∃ x, x = nmw (wAt ws 6) := ⟨_, rfl⟩
      obtain ⟨x4, hx4⟩ : ∃ x, x = nmw (wAt ws 7) := ⟨_, rfl⟩
      obtain ⟨x5, hx5⟩ : ∃ x, x = nmw (wAt ws 8) := ⟨_, rfl⟩
      obtain ⟨x6, hx6⟩ : ∃ x, x = nmw (wAt ws 9) := ⟨_, rfl⟩
      obtain ⟨x7, hx7⟩ : ∃ x, x = nmw (wAt ws 10) := ⟨_, rfl⟩
      obtain ⟨x8, hx8⟩ : ∃ x, x = nmw (wAt ws 11) := ⟨_, rfl⟩
      obtain ⟨x9, hx9⟩ : ∃ x, x = nmw (wAt ws 13) := ⟨_, rfl⟩
      obtain ⟨x10, hx10⟩ : ∃ x, x = nmw (wAt ws 14) := ⟨_, rfl⟩
      obtain ⟨y0, hy0'⟩ : ∃ x, x = Hxw.out (wAt ws 3) := ⟨_, rfl⟩
      obtain ⟨y1, hy1'⟩ : ∃ x, x = Hxw.out (wAt ws 4) := ⟨_, rfl⟩
      obtain ⟨y2, hy2'⟩ : ∃ x, x = Hxw.out (wAt ws 5) := ⟨_, rfl⟩
      obtain ⟨y3, hy3'⟩ : ∃ x, x = Hxw.out (wAt ws 12) := ⟨_, rfl⟩
      have HN := Lib.hid (show wr.ownsRow w2.heap.size 3 1 (.slice NA 11 nc) 11 ([.int .i64 x0, .int .i64 x1, .int .i64 x2, .int .i64 x3, .int .i64 x4, .int .i64 x5, .int .i64 x6, .int .i64 x7, .int .i64 x8, .int .i64 x9, .int .i64 x10] : List Value) from by
        have := HR.out.n
        rw [show numsTo ws 15 = [nmw (wAt ws 0), nmw (wAt ws 1), nmw (wAt ws 2), nmw (wAt ws 6), nmw (wAt ws 7), nmw (wAt ws 8), nmw (wAt ws 9), nmw (wAt ws 10), nmw (wAt ws 11), nmw (wAt ws 13), nmw (wAt ws 14)] from rfl, ← hx0, ← hx1, ← hx2, ← hx3, ← hx4, ← hx5, ← hx6, ← hx7, ← hx8, ← hx9, ← hx10] at this
        exact this)
      have HT := Lib.hid (show wr.ownsRow w2.heap.size 9 1 (.slice TA 4 tc) 4 ([.string y0, .string y1, .string y2, .string y3] : List Value) from by
        have := HR.out.t
        rw [show txtsTo ws 15 = [Hxw.out (wAt ws 3), Hxw.out (wAt ws 4), Hxw.out (wAt ws 5), Hxw.out (wAt ws 12)] from rfl, ← hy0', ← hy1', ← hy2', ← hy3'] at this
        exact this)
      have HH := Lib.hid (fun PS => show headR ws PS = ⟨x0, x1, ⟨x2, y0, y1, y2⟩, x3, x4, x5 == 1, ⟨x6, x7 == 1, x8 == 1, y3, x9, PS⟩⟩ from by unfold headR; rw [← hx0, ← hx1, ← hx2, ← hx3, ← hx4, ← hx5, ← hx6, ← hx7, ← hx8, ← hx9, ← hy0', ← hy1', ← hy2', ← hy3'])
      have HF := Lib.hid (show fit15 ws = decide (x10 = (m : Int)) from by
        unfold fit15
        rw [HR.out.ok, ← hx10, decide_eq_true (show 15 ≤ ws.length by have := HM.out; omega), decide_eq_true (show ws.length % 2 = 1 by have := HM.out; omega), show (ws.length - 15) / 2 = m by have := HM.out; omega]
        simp)
      have HMM := Lib.hid (show (ws.length - 15) / 2 = m by have := HM.out; omega)
      obtain ⟨gn, cn, e⟩ := own_pos HN.out (by omega)
      injection e with e1 e2 e3
      subst e1 e3
      obtain ⟨gt, ct, e⟩ := own_pos HT.out (by omega)
      injection e with e1 e2 e3
      subst e1 e3
      clear hx0 hx1 hx2 hx3 hx4 hx5 hx6 hx7 hx8 hx9 hx10 hy0' hy1' hy2' hy3' hnl htl h15 hk e2
      have HTB := Lib.hid (show ∀ W, Below wr.heap.size wr W → TN gn gt [.int .i64 x0, .int .i64 x1, .int .i64 x2, .int .i64 x3, .int .i64 x4, .int .i64 x5, .int .i64 x6, .int .i64 x7, .int .i64 x8, .int .i64 x9, .int .i64 x10] [.string y0, .string y1, .string y2, .string y3] W from fun W hW => ⟨fun j u hu => (hW.cell (p := ⟨gn, j, none⟩) (row_cell HN.out).1).trans ((row_cell HN.out).2 j u hu), fun j u hu => (hW.cell (p := ⟨gt, j, none⟩) (row_cell HT.out).1).trans ((row_cell HT.out).2 j u hu)⟩)
      have k10 : wr.cell? ⟨gn, 10, none⟩ = some (.int .i64 x10) := (HTB.out wr (Below.refl _ _)).1 10 _ rfl
      have hml : m ≤ 1000001 := by have := HM.out; omega
      have hw15 : IntKind.i64.wrap ((ws.length : Int) - 15) = (ws.length : Int) - 15 := IntWalk.i64_in _ (by omega)
      have hd2 : ((ws.length : Int) - 15) / 2 = (m : Int) := by have := HM.out; omega
      by_cases h10 : x10 = (m : Int)
      rotate_left
      · have b3 : (x10 != (m : Int)) = true := by simpa using h10
        have HNO := Lib.hid (lineR_no15 (ws := ws) (by rw [HF.out]; exact decide_eq_false h10))
        clear h10

        have HBW := Lib.hid hBw
        clear hBw
        go_wp2_with (refine wpList_store_row rfl 50 _ _ rfl w.heap.size #[.int .i64 0, .int .i64 0, .int .i64 0, .string ⟨#[]⟩, .string ⟨#[]⟩, .string ⟨#[]⟩, .int .i64 0, .int .i64 0, .bool false, .int .i64 0, .bool false, .bool false, .string ⟨#[]⟩, .int .i64 0, .slice none 0 0] rfl rfl 50 #[.int .i64 0, .int .i64 0, .int .i64 0, .string ⟨#[]⟩, .string ⟨#[]⟩, .string ⟨#[]⟩, .int .i64 0, .int .i64 0, .bool false, .int .i64 0, .bool false, .bool false, .string ⟨#[]⟩, .int .i64 0, .slice none 0 0] (HRB.out wr HBW.out) infoC1 rfl zero_one ?_; rw [setRow_self _ _ _ _ _ (HRB.out wr HBW.out)])
        exact ⟨rfl, _, ret_call rfl (HRB.out wr HBW.out) rfl rfl, rzero_end (HNO.out) (HB0.out wr HBW.out)⟩
      have b3 : (x10 != (m : Int)) = false := by simpa using h10
      have HLR := Lib.hid (show lineR ws = if pok ws m then (headR ws (prsTo ws m), true) else (zeroCall, false) from by unfold lineR; rw [HF.out, decide_eq_true h10, HMM.out]; rfl)
      clear h10
      have HBW := Lib.hid hBw
      clear hBw
      go_wp2_with fail
      clear b3 k10 hw15 hd2
      have hT0 : TN gn gt [.int .i64 x0, .int .i64 x1, .int .i64 x2, .int .i64 x3, .int .i64 x4, .int .i64 x5, .int .i64 x6, .int .i64 x7, .int .i64 x8, .int .i64 x9, .int .i64 x10] [.string y0, .string y1, .string y2, .string y3] wr.drew := HTB.out _ ((Below.refl _ _).drew)
      refine region_till (TN gn gt [.int .i64 x0, .int .i64 x1, .int .i64 x2, .int .i64 x3, .int .i64 x4, .int .i64 x5, .int .i64 x6, .int .i64 x7, .int .i64 x8, .int .i64 x9, .int .i64 x10] [.string y0, .string y1, .string y2, .string y3]) (fun _ => True) 31 (by kernel_rfl) ?_
      refine Rr.take_T 0 (v := ?v0) rfl (by kernel_rfl) (by kernel_rfl) (by kernel_rfl) (by kernel_rfl) (fun _ _ _ h => h) hT0 (fun _ => trivial) (Or.inl ⟨by rfl, ?y0⟩) ?z0
      case y0 =>
        intro wz hz
        go_simp
        try with_reducible rfl
      case z0 =>
      try simp only [Act.put, List.setIfInBounds_toArray, List.set_cons_zero, List.set_cons_succ]
      refine Rr.take_T 1 (v := ?v1) rfl (by kernel_rfl) (by kernel_rfl) (by kernel_rfl) (by kernel_rfl) (fun _ _ _ h => h) hT0 (fun _ => trivial) (Or.inl ⟨by rfl, ?y1⟩) ?z1
      case y1 =>
        intro wz hz
        go_simp
        try with_reducible rfl
      case z1 =>
      try simp only [Act.put, List.setIfInBounds_toArray, List.set_cons_zero, List.set_cons_succ]
      refine Rr.take_T 2 (v := ?v2) rfl (by kernel_rfl) (by kernel_rfl) (by kernel_rfl) (by kernel_rfl) (fun _ _ _ h => h) hT0 (fun _ => trivial) (Or.inl ⟨by rfl, ?y2⟩) ?z2
      case y2 =>
        intro wz hz
        have hc : wz.cell? ⟨gn, 0, none⟩ = some (.int .i64 x0) := hz.1 0 _ rfl
        go_simp
        try with_reducible rfl
      case z2 =>
      try simp only [Act.put, List.setIfInBounds_toArray, List.set_cons_zero, List.set_cons_succ]
      refine Rr.take_T 3 (v := ?v3) rfl (by kernel_rfl) (by kernel_rfl) (by kernel_rfl) (by kernel_rfl) (fun _ _ _ h => h) hT0 (fun _ => trivial) (Or.inl ⟨by rfl, ?y3⟩) ?z3
      case y3 =>
        intro wz hz
        go_simp
        try with_reducible rfl
      case z3 =>
      try simp only [Act.put, List.setIfInBounds_toArray, List.set_cons_zero, List.set_cons_succ]
      refine Rr.take_T 4 (v := ?v4) rfl (by kernel_rfl) (by kernel_rfl) (by kernel_rfl) (by kernel_rfl) (fun _ _ _ h => h) hT0 (fun _ => trivial) (Or.inl ⟨by rfl, ?y4⟩) ?z4
      case y4 =>
        intro wz hz
        go_simp
        try with_reducible rfl
      case z4 =>
      try simp only [Act.put, List.setIfInBounds_toArray, List.set_cons_zero, List.set_cons_succ]
      refine Rr.take_T 5 (v := ?v5) rfl (by kernel_rfl) (by kernel_rfl) (by kernel_rfl) (by kernel_rfl) (fun _ _ _ h => h) hT0 (fun _ => trivial) (Or.inl ⟨by rfl, ?y5⟩) ?z5
      case y5 =>
        intro wz hz
        have hc : wz.cell? ⟨gn, 1, none⟩ = some (.int .i64 x1) := hz.1 1 _ rfl
        go_simp
        try with_reducible rfl
      case z5 =>
      try simp only [Act.put, List.setIfInBounds_toArray, List.set_cons_zero, List.set_cons_succ]
      refine Rr.take_T 6 (v := ?v6) rfl (by kernel_rfl) (by kernel_rfl) (by kernel_rfl) (by kernel_rfl) (fun _ _ _ h => h) hT0 (fun _ => trivial) (Or.inl ⟨by rfl, ?y6⟩) ?z6
      case y6 =>
        intro wz hz
        go_simp
        try with_reducible rfl
      case z6 =>
      try simp only [Act.put, List.setIfInBounds_toArray, List.set_cons_zero, List.set_cons_succ]
      refine Rr.take_T 7 (v := ?v7) rfl (by kernel_rfl) (by kernel_rfl) (by kernel_rfl) (by kernel_rfl) (fun _ _ _ h => h) hT0 (fun _ => trivial) (Or.inl ⟨by rfl, ?y7⟩) ?z7
      case y7 =>
        intro wz hz
        go_simp
        try with_reducible rfl
      case z7 =>
      try simp only [Act.put, List.setIfInBounds_toArray, List.set_cons_zero, List.set_cons_succ]
      refine Rr.take_T 8 (v := ?v8) rfl (by kernel_rfl) (by kernel_rfl) (by kernel_rfl) (by kernel_rfl) (fun _ _ _ h => h) hT0 (fun _ => trivial) (Or.inl ⟨by rfl, ?y8⟩) ?z8
      case y8 =>
        intro wz hz
        have hc : wz.cell? ⟨gn, 2, none⟩ = some (.int .i64 x2) := hz.1 2 _ rfl
        go_simp
        try with_reducible rfl
      case z8 =>
      try simp only [Act.put, List.setIfInBounds_toArray, List.set_cons_zero, List.set_cons_succ]
      refine Rr.take_T 9 (v := ?v9) rfl (by kernel_rfl) (by kernel_rfl) (by kernel_rfl) (by kernel_rfl) (fun _ _ _ h => h) hT0 (fun _ => trivial) (Or.inl ⟨by rfl, ?y9⟩) ?z9
      case y9 =>
        intro wz hz
        go_simp
        try with_reducible rfl
      case z9 =>
      try simp only [Act.put, List.setIfInBounds_toArray, List.set_cons_zero, List.set_cons_succ]
      refine Rr.take_T 10 (v := ?v10) rfl (by kernel_rfl) (by kernel_rfl) (by kernel_rfl) (by kernel_rfl) (fun _ _ _ h => h) hT0 (fun _ => trivial) (Or.inl ⟨by rfl, ?y10⟩) ?z10
      case y10 =>
        intro wz hz
        go_simp
        try with_reducible rfl
      case z10 =>
      try simp only [Act.put, List.setIfInBounds_toArray, List.set_cons_zero, List.set_cons_succ]
      refine Rr.take_T 11 (v := ?v11) rfl (by kernel_rfl) (by kernel_rfl) (by kernel_rfl) (by kernel_rfl) (fun _ _ _ h => h) hT0 (fun _ => trivial) (Or.inl ⟨by rfl, ?y11⟩) ?z11
      case y11 =>
        intro wz hz
        have hc : wz.cell? ⟨gt, 0, none⟩ = some (.string y0) := hz.2 0 _ rfl
        go_simp
        try with_reducible rfl
      case z11 =>
      try simp only [Act.put, List.setIfInBounds_toArray, List.set_cons_zero, List.set_cons_succ]
      refine Rr.take_T 12 (v := ?v12) rfl (by kernel_rfl) (by kernel_rfl) (by kernel_rfl) (by kernel_rfl) (fun _ _ _ h => h) hT0 (fun _ => trivial) (Or.inl ⟨by rfl, ?y12⟩) ?z12
      case y12 =>
        intro wz hz
        go_simp
        try with_reducible rfl
      case z12 =>
      try simp only [Act.put, List.setIfInBounds_toArray, List.set_cons_zero, List.set_cons_succ]
      refine Rr.take_T 13 (v := ?v13) rfl (by kernel_rfl) (by kernel_rfl) (by kernel_rfl) (by kernel_rfl) (fun _ _ _ h => h) hT0 (fun _ => trivial) (Or.inl ⟨by rfl, ?y13⟩) ?z13
      case y13 =>
        intro wz hz
        go_simp
        try with_reducible rfl
      case z13 =>
      try simp only [Act.put, List.setIfInBounds_toArray, List.set_cons_zero, List.set_cons_succ]
      refine Rr.take_T 14 (v := ?v14) rfl (by kernel_rfl) (by kernel_rfl) (by kernel_rfl) (by kernel_rfl) (fun _ _ _ h => h) hT0 (fun _ => trivial) (Or.inl ⟨by rfl, ?y14⟩) ?z14
      case y14 =>
        intro wz hz
        have hc : wz.cell? ⟨gt, 1, none⟩ = some (.string y1) := hz.2 1 _ rfl
        go_simp
        try with_reducible rfl
      case z14 =>
      try simp only [Act.put, List.setIfInBounds_toArray, List.set_cons_zero, List.set_cons_succ]
      refine Rr.take_T 15 (v := ?v15) rfl (by kernel_rfl) (by kernel_rfl) (by kernel_rfl) (by kernel_rfl) (fun _ _ _ h => h) hT0 (fun _ => trivial) (Or.inl ⟨by rfl, ?y15⟩) ?z15
      case y15 =>
        intro wz hz
        go_simp
        try with_reducible rfl
      case z15 =>
      try simp only [Act.put, List.setIfInBounds_toArray, List.set_cons_zero, List.set_cons_succ]
      refine Rr.take_T 16 (v := ?v16) rfl (by kernel_rfl) (by kernel_rfl) (by kernel_rfl) (by kernel_rfl) (fun _ _ _ h => h) hT0 (fun _ => trivial) (Or.inl ⟨by rfl, ?y16⟩) ?z16
      case y16 =>
        intro wz hz
        go_simp
        try with_reducible rfl
      case z16 =>
      try simp only [Act.put, List.setIfInBounds_toArray, List.set_cons_zero, List.set_cons_succ]
      refine Rr.take_T 17 (v := ?v17) rfl (by kernel_rfl) (by kernel_rfl) (by kernel_rfl) (by kernel_rfl) (fun _ _ _ h => h) hT0 (fun _ => trivial) (Or.inl ⟨by rfl, ?y17⟩) ?z17
      case y17 =>
        intro wz hz
        have hc : wz.cell? ⟨gt, 2, none⟩ = some (.string y2) := hz.2 2 _ rfl
        go_simp
        try with_reducible rfl
      case z17 =>
      try simp only [Act.put, List.setIfInBounds_toArray, List.set_cons_zero, List.set_cons_succ]
      refine Rr.take_T 18 (v := ?v18) rfl (by kernel_rfl) (by kernel_rfl) (by kernel_rfl) (by kernel_rfl) (fun _ _ _ h => h) hT0 (fun _ => trivial) (Or.inl ⟨by rfl, ?y18⟩) ?z18
      case y18 =>
        intro wz hz
        go_simp
        try with_reducible rfl
      case z18 =>
      try simp only [Act.put, List.setIfInBounds_toArray, List.set_cons_zero, List.set_cons_succ]
      refine Rr.take_T 19 (v := ?v19) rfl (by kernel_rfl) (by kernel_rfl) (by kernel_rfl) (by kernel_rfl) (fun _ _ _ h => h) hT0 (fun _ => trivial) (Or.inl ⟨by rfl, ?y19⟩) ?z19
      case y19 =>
        intro wz hz
        go_simp
        try with_reducible rfl
      case z19 =>
      try simp only [Act.put, List.setIfInBounds_toArray, List.set_cons_zero, List.set_cons_succ]
      refine Rr.take_T 20 (v := ?v20) rfl (by kernel_rfl) (by kernel_rfl) (by kernel_rfl) (by kernel_rfl) (fun _ _ _ h => h) hT0 (fun _ => trivial) (Or.inl ⟨by rfl, ?y20⟩) ?z20
      case y20 =>
        intro wz hz
        go_simp
        try with_reducible rfl
      case z20 =>
      try simp only [Act.put, List.setIfInBounds_toArray, List.set_cons_zero, List.set_cons_succ]
      refine Rr.take_T 21 (v := ?v21) rfl (by kernel_rfl) (by kernel_rfl) (by kernel_rfl) (by kernel_rfl) (fun _ _ _ h => h) hT0 (fun _ => trivial) (Or.inl ⟨by rfl, ?y21⟩) ?z21
      case y21 =>
        intro wz hz
        have hc : wz.cell? ⟨gn, 3, none⟩ = some (.int .i64 x3) := hz.1 3 _ rfl
        go_simp
        try with_reducible rfl
      case z21 =>
      try simp only [Act.put, List.setIfInBounds_toArray, List.set_cons_zero, List.set_cons_succ]
      refine Rr.take_T 22 (v := ?v22) rfl (by kernel_rfl) (by kernel_rfl) (by kernel_rfl) (by kernel_rfl) (fun _ _ _ h => h) hT0 (fun _ => trivial) (Or.inl ⟨by rfl, ?y22⟩) ?z22
      case y22 =>
        intro wz hz
        go_simp
        try with_reducible rfl
      case z22 =>
      try simp only [Act.put, List.setIfInBounds_toArray, List.set_cons_zero, List.set_cons_succ]
      refine Rr.take_T 23 (v := ?v23) rfl (by kernel_rfl) (by kernel_rfl) (by kernel_rfl) (by kernel_rfl) (fun _ _ _ h => h) hT0 (fun _ => trivial) (Or.inl ⟨by rfl, ?y23⟩) ?z23
      case y23 =>
        intro wz hz
        go_simp
        try with_reducible rfl
      case z23 =>
      try simp only [Act.put, List.setIfInBounds_toArray, List.set_cons_zero, List.set_cons_succ]
      refine Rr.take_T 24 (v := ?v24) rfl (by kernel_rfl) (by kernel_rfl) (by kernel_rfl) (by kernel_rfl) (fun _ _ _ h => h) hT0 (fun _ => trivial) (Or.inl ⟨by rfl, ?y24⟩) ?z24
      case y24 =>
        intro wz hz
        have hc : wz.cell? ⟨gn, 4, none⟩ = some (.int .i64 x4) := hz.1 4 _ rfl
        go_simp
        try with_reducible rfl
      case z24 =>
      try simp only [Act.put, List.setIfInBounds_toArray, List.set_cons_zero, List.set_cons_succ]
      refine Rr.take_T 25 (v := ?v25) rfl (by kernel_rfl) (by kernel_rfl) (by kernel_rfl) (by kernel_rfl) (fun _ _ _ h => h) hT0 (fun _ => trivial) (Or.inl ⟨by rfl, ?y25⟩) ?z25
      case y25 =>
        intro wz hz
        go_simp
        try with_reducible rfl
      case z25 =>
      try simp only [Act.put, List.setIfInBounds_toArray, List.set_cons_zero, List.set_cons_succ]
      refine Rr.take_T 26 (v := ?v26) rfl (by kernel_rfl) (by kernel_rfl) (by kernel_rfl) (by kernel_rfl) (fun _ _ _ h => h) hT0 (fun _ => trivial) (Or.inl ⟨by rfl, ?y26⟩) ?z26
      case y26 =>
        intro wz hz
        go_simp
        try with_reducible rfl
      case z26 =>
      try simp only [Act.put, List.setIfInBounds_toArray, List.set_cons_zero, List.set_cons_succ]
      refine Rr.take_T 27 (v := ?v27) rfl (by kernel_rfl) (by kernel_rfl) (by kernel_rfl) (by kernel_rfl) (fun _ _ _ h => h) hT0 (fun _ => trivial) (Or.inl ⟨by rfl, ?y27⟩) ?z27
      case y27 =>
        intro wz hz
        have hc : wz.cell? ⟨gn, 5, none⟩ = some (.int .i64 x5) := hz.1 5 _ rfl
        go_simp
        try with_reducible rfl
      case z27 =>
      try simp only [Act.put, List.setIfInBounds_toArray, List.set_cons_zero, List.set_cons_succ]
      refine Rr.take_T 28 (v := ?v28) rfl (by kernel_rfl) (by kernel_rfl) (by kernel_rfl) (by kernel_rfl) (fun _ _ _ h => h) hT0 (fun _ => trivial) (Or.inl ⟨by rfl, ?y28⟩) ?z28
      case y28 =>
        intro wz hz
        go_simp
        try with_reducible rfl
      case z28 =>
      try simp only [Act.put, List.setIfInBounds_toArray, List.set_cons_zero, List.set_cons_succ]
      refine Rr.take_T 29 (v := ?v29) rfl (by kernel_rfl) (by kernel_rfl) (by kernel_rfl) (by kernel_rfl) (fun _ _ _ h => h) hT0 (fun _ => trivial) (Or.inl ⟨by rfl, ?y29⟩) ?z29
      case y29 =>
        intro wz hz
        go_simp
        try with_reducible rfl
      case z29 =>
      try simp only [Act.put, List.setIfInBounds_toArray, List.set_cons_zero, List.set_cons_succ]
      refine Rr.till_all [30] (by kernel_rfl) (by simp) (List.forall_mem_cons.2 ⟨fun K hK => ?_, fun i hi => by cases hi⟩)
      refine Rr.op_at _ rfl ?_
      go_simp
      refine hK _ _ (HTB.out _ (((Below.refl _ _).alloc (Nat.le_refl _) _).drew)) (fun _ => trivial) ?_
      clear hK K
      try simp only [Act.put, List.setIfInBounds_toArray, List.set_cons_zero, List.set_cons_succ]
      refine Rr.till_all [31] (by kernel_rfl) (by simp) (List.forall_mem_cons.2 ⟨fun K hK => ?_, fun i hi => by cases hi⟩)
      refine Rr.op_at _ rfl ?_
      go_simp
      refine hK _ _ (HTB.out _ (((Below.refl _ _).alloc (Nat.le_refl _) _).drew)) (fun _ => trivial) ?_
      clear hK K
      try simp only [Act.put, List.setIfInBounds_toArray, List.set_cons_zero, List.set_cons_succ]
      refine Rr.till_done (by kernel_rfl) ?_ _
      go_wp2_with fail
      obtain ⟨W20, hW20⟩ : ∃ W, W = (wr.alloc (.cells #[.int .i64 x0, .int .i64 x1, .int .i64 x2, .string y0, .string y1, .string y2, .int .i64 x3, .int .i64 x4, .bool (x5 == 1), .int .i64 0, .bool false, .bool false, .string ⟨#[]⟩, .int .i64 0, .slice none 0 0] 50)).drew := ⟨_, rfl⟩
      rw [← hW20]
      obtain ⟨gc, hgc⟩ : ∃ x, x = wr.heap.size := ⟨_, rfl⟩
      have HC20 := Lib.hid (show W20.heap[gc]? = some (.cells #[.int .i64 x0, .int .i64 x1, .int .i64 x2, .string y0, .string y1, .string y2, .int .i64 x3, .int .i64 x4, .bool (x5 == 1), .int .i64 0, .bool false, .bool false, .string ⟨#[]⟩, .int .i64 0, .slice none 0 0] 50 (0, 0)) from by rw [hW20, hgc]; exact heap_alloc_new wr _)
      have HB20 := Lib.hid (show Below wr.heap.size wr W20 from by rw [hW20]; exact ((Below.refl _ _).alloc (Nat.le_refl _) _).drew)
      have HGC := Lib.hid (show wr.heap.size ≤ gc ∧ w2.heap.size ≤ gc from ⟨by omega, by omega⟩)
      rw [← hgc]
      have HBC := Lib.hid (show ∀ W, Below gc W20 W → Below wr.heap.size wr W from fun W hW => by rw [hgc] at hW; exact HB20.out.trans hW)
      clear hW20 hgc hT0
      have q9 : W20.cell? ⟨gc, 9, none⟩ = some (.int .i64 0) := cell_of' HC20.out 9
      have zq9 := frozen_of' HC20.out 9
      have q10 : W20.cell? ⟨gc, 10, none⟩ = some (.bool false) := cell_of' HC20.out 10
      have zq10 := frozen_of' HC20.out 10
      have q11 : W20.cell? ⟨gc, 11, none⟩ = some (.bool false) := cell_of' HC20.out 11
      have zq11 := frozen_of' HC20.out 11
      have q12 : W20.cell? ⟨gc, 12, none⟩ = some (.string ⟨#[]⟩) := cell_of' HC20.out 12
      have zq12 := frozen_of' HC20.out 12
      have q13 : W20.cell? ⟨gc, 13, none⟩ = some (.int .i64 0) := cell_of' HC20.out 13
      have zq13 := frozen_of' HC20.out 13
      have q14 : W20.cell? ⟨gc, 14, none⟩ = some (.slice none 0 0) := cell_of' HC20.out 14
      have zq14 := frozen_of' HC20.out 14
      have hT0 : TN gn gt [.int .i64 x0, .int .i64 x1, .int .i64 x2, .int .i64 x3, .int .i64 x4, .int .i64 x5, .int .i64 x6, .int .i64 x7, .int .i64 x8, .int .i64 x9, .int .i64 x10] [.string y0, .string y1, .string y2, .string y3] W20.drew := HTB.out _ (HB20.out.drew)
      refine region_till (TN gn gt [.int .i64 x0, .int .i64 x1, .int .i64 x2, .int .i64 x3, .int .i64 x4, .int .i64 x5, .int .i64 x6, .int .i64 x7, .int .i64 x8, .int .i64 x9, .int .i64 x10] [.string y0, .string y1, .string y2, .string y3]) (fun _ => True) 19 (by kernel_rfl) ?_
      refine Rr.take_T 0 (v := ?vb0) rfl (by kernel_rfl) (by kernel_rfl) (by kernel_rfl) (by kernel_rfl) (fun _ _ _ h => h) hT0 (fun _ => trivial) (Or.inl ⟨by rfl, ?yb0⟩) ?zb0
      case yb0 =>
        intro wz hz
        go_simp
        try with_reducible rfl
      case zb0 =>
      try simp only [Act.put, List.setIfInBounds_toArray, List.set_cons_zero, List.set_cons_succ]
      refine Rr.take_T 1 (v := ?vb1) rfl (by kernel_rfl) (by kernel_rfl) (by kernel_rfl) (by kernel_rfl) (fun _ _ _ h => h) hT0 (fun _ => trivial) (Or.inl ⟨by rfl, ?yb1⟩) ?zb1
      case yb1 =>
        intro wz hz
        go_simp
        try with_reducible rfl
      case zb1 =>
      try simp only [Act.put, List.setIfInBounds_toArray, List.set_cons_zero, List.set_cons_succ]
      refine Rr.take_T 2 (v := ?vb2) rfl (by kernel_rfl) (by kernel_rfl) (by kernel_rfl) (by kernel_rfl) (fun _ _ _ h => h) hT0 (fun _ => trivial) (Or.inl ⟨by rfl, ?yb2⟩) ?zb2
      case yb2 =>
        intro wz hz
        have hc : wz.cell? ⟨gn, 6, none⟩ = some (.int .i64 x6) := hz.1 6 _ rfl
        go_simp
        try with_reducible rfl
      case zb2 =>
      try simp only [Act.put, List.setIfInBounds_toArray, List.set_cons_zero, List.set_cons_succ]
      refine Rr.take_T 3 (v := ?vb3) rfl (by kernel_rfl) (by kernel_rfl) (by kernel_rfl) (by kernel_rfl) (fun _ _ _ h => h) hT0 (fun _ => trivial) (Or.inl ⟨by rfl, ?yb3⟩) ?zb3
      case yb3 =>
        intro wz hz
        go_simp
        try with_reducible rfl
      case zb3 =>
      try simp only [Act.put, List.setIfInBounds_toArray, List.set_cons_zero, List.set_cons_succ]
      refine Rr.take_T 4 (v := ?vb4) rfl (by kernel_rfl) (by kernel_rfl) (by kernel_rfl) (by kernel_rfl) (fun _ _ _ h => h) hT0 (fun _ => trivial) (Or.inl ⟨by rfl, ?yb4⟩) ?zb4
      case yb4 =>
        intro wz hz
        go_simp
        try with_reducible rfl
      case zb4 =>
      try simp only [Act.put, List.setIfInBounds_toArray, List.set_cons_zero, List.set_cons_succ]
      refine Rr.take_T 5 (v := ?vb5) rfl (by kernel_rfl) (by kernel_rfl) (by kernel_rfl) (by kernel_rfl) (fun _ _ _ h => h) hT0 (fun _ => trivial) (Or.inl ⟨by rfl, ?yb5⟩) ?zb5
      case yb5 =>
        intro wz hz
        have hc : wz.cell? ⟨gn, 7, none⟩ = some (.int .i64 x7) := hz.1 7 _ rfl
        go_simp
        try with_reducible rfl
      case zb5 =>
      try simp only [Act.put, List.setIfInBounds_toArray, List.set_cons_zero, List.set_cons_succ]
      refine Rr.take_T 6 (v := ?vb6) rfl (by kernel_rfl) (by kernel_rfl) (by kernel_rfl) (by kernel_rfl) (fun _ _ _ h => h) hT0 (fun _ => trivial) (Or.inl ⟨by rfl, ?yb6⟩) ?zb6
      case yb6 =>
        intro wz hz
        go_simp
        try with_reducible rfl
      case zb6 =>
      try simp only [Act.put, List.setIfInBounds_toArray, List.set_cons_zero, List.set_cons_succ]
      refine Rr.take_T 7 (v := ?vb7) rfl (by kernel_rfl) (by kernel_rfl) (by kernel_rfl) (by kernel_rfl) (fun _ _ _ h => h) hT0 (fun _ => trivial) (Or.inl ⟨by rfl, ?yb7⟩) ?zb7
      case yb7 =>
        intro wz hz
        go_simp
        try with_reducible rfl
      case zb7 =>
      try simp only [Act.put, List.setIfInBounds_toArray, List.set_cons_zero, List.set_cons_succ]
      refine Rr.take_T 8 (v := ?vb8) rfl (by kernel_rfl) (by kernel_rfl) (by kernel_rfl) (by kernel_rfl) (fun _ _ _ h => h) hT0 (fun _ => trivial) (Or.inl ⟨by rfl, ?yb8⟩) ?zb8
      case yb8 =>
        intro wz hz
        go_simp
        try with_reducible rfl
      case zb8 =>
      try simp only [Act.put, List.setIfInBounds_toArray, List.set_cons_zero, List.set_cons_succ]
      refine Rr.take_T 9 (v := ?vb9) rfl (by kernel_rfl) (by kernel_rfl) (by kernel_rfl) (by kernel_rfl) (fun _ _ _ h => h) hT0 (fun _ => trivial) (Or.inl ⟨by rfl, ?yb9⟩) ?zb9
      case yb9 =>
        intro wz hz
        have hc : wz.cell? ⟨gn, 8, none⟩ = some (.int .i64 x8) := hz.1 8 _ rfl
        go_simp
        try with_reducible rfl
      case zb9 =>
      try simp only [Act.put, List.setIfInBounds_toArray, List.set_cons_zero, List.set_cons_succ]
      refine Rr.take_T 10 (v := ?vb10) rfl (by kernel_rfl) (by kernel_rfl) (by kernel_rfl) (by kernel_rfl) (fun _ _ _ h => h) hT0 (fun _ => trivial) (Or.inl ⟨by rfl, ?yb10⟩) ?zb10
      case yb10 =>
        intro wz hz
        go_simp
        try with_reducible rfl
      case zb10 =>
      try simp only [Act.put, List.setIfInBounds_toArray, List.set_cons_zero, List.set_cons_succ]
      refine Rr.take_T 11 (v := ?vb11) rfl (by kernel_rfl) (by kernel_rfl) (by kernel_rfl) (by kernel_rfl) (fun _ _ _ h => h) hT0 (fun _ => trivial) (Or.inl ⟨by rfl, ?yb11⟩) ?zb11
      case yb11 =>
        intro wz hz
        go_simp
        try with_reducible rfl
      case zb11 =>
      try simp only [Act.put, List.setIfInBounds_toArray, List.set_cons_zero, List.set_cons_succ]
      refine Rr.take_T 12 (v := ?vb12) rfl (by kernel_rfl) (by kernel_rfl) (by kernel_rfl) (by kernel_rfl) (fun _ _ _ h => h) hT0 (fun _ => trivial) (Or.inl ⟨by rfl, ?yb12⟩) ?zb12
      case yb12 =>
        intro wz hz
        go_simp
        try with_reducible rfl
      case zb12 =>
      try simp only [Act.put, List.setIfInBounds_toArray, List.set_cons_zero, List.set_cons_succ]
      refine Rr.take_T 13 (v := ?vb13) rfl (by kernel_rfl) (by kernel_rfl) (by kernel_rfl) (by kernel_rfl) (fun _ _ _ h => h) hT0 (fun _ => trivial) (Or.inl ⟨by rfl, ?yb13⟩) ?zb13
      case yb13 =>
        intro wz hz
        have hc : wz.cell? ⟨gt, 3, none⟩ = some (.string y3) := hz.2 3 _ rfl
        go_simp
        try with_reducible rfl
      case zb13 =>
      try simp only [Act.put, List.setIfInBounds_toArray, List.set_cons_zero, List.set_cons_succ]
      refine Rr.take_T 14 (v := ?vb14) rfl (by kernel_rfl) (by kernel_rfl) (by kernel_rfl) (by kernel_rfl) (fun _ _ _ h => h) hT0 (fun _ => trivial) (Or.inl ⟨by rfl, ?yb14⟩) ?zb14
      case yb14 =>
        intro wz hz
        go_simp
        try with_reducible rfl
      case zb14 =>
      try simp only [Act.put, List.setIfInBounds_toArray, List.set_cons_zero, List.set_cons_succ]
      refine Rr.take_T 15 (v := ?vb15) rfl (by kernel_rfl) (by kernel_rfl) (by kernel_rfl) (by kernel_rfl) (fun _ _ _ h => h) hT0 (fun _ => trivial) (Or.inl ⟨by rfl, ?yb15⟩) ?zb15
      case yb15 =>
        intro wz hz
        go_simp
        try with_reducible rfl
      case zb15 =>
      try simp only [Act.put, List.setIfInBounds_toArray, List.set_cons_zero, List.set_cons_succ]
      refine Rr.take_T 16 (v := ?vb16) rfl (by kernel_rfl) (by kernel_rfl) (by kernel_rfl) (by kernel_rfl) (fun _ _ _ h => h) hT0 (fun _ => trivial) (Or.inl ⟨by rfl, ?yb16⟩) ?zb16
      case yb16 =>
        intro wz hz
        have hc : wz.cell? ⟨gn, 9, none⟩ = some (.int .i64 x9) := hz.1 9 _ rfl
        go_simp
        try with_reducible rfl
      case zb16 =>
      try simp only [Act.put, List.setIfInBounds_toArray, List.set_cons_zero, List.set_cons_succ]
      refine Rr.take_T 17 (v := ?vb17) rfl (by kernel_rfl) (by kernel_rfl) (by kernel_rfl) (by kernel_rfl) (fun _ _ _ h => h) hT0 (fun _ => trivial) (Or.inl ⟨by rfl, ?yb17⟩) ?zb17
      case yb17 =>
        intro wz hz
        go_simp
        try with_reducible rfl
      case zb17 =>
      try simp only [Act.put, List.setIfInBounds_toArray, List.set_cons_zero, List.set_cons_succ]
      refine Rr.take_T 18 (v := ?vb18) rfl (by kernel_rfl) (by kernel_rfl) (by kernel_rfl) (by kernel_rfl) (fun _ _ _ h => h) hT0 (fun _ => trivial) (Or.inl ⟨by rfl, ?yb18⟩) ?zb18
      case yb18 =>
        intro wz hz
        go_simp
        try with_reducible rfl
      case zb18 =>
      try simp only [Act.put, List.setIfInBounds_toArray, List.set_cons_zero, List.set_cons_succ]
      refine Rr.till_all [19] (by kernel_rfl) (by simp) (List.forall_mem_cons.2 ⟨fun K hK => ?_, fun i hi => by cases hi⟩)
      refine Rr.op_at _ rfl ?_
      go_simp
      obtain ⟨W21, hW21⟩ : ∃ W, W = (((((((W20.setCell ⟨gc, 9, none⟩ (.int .i64 x6)).setCell ⟨gc, 10, none⟩ (.bool (x7 == 1))).setCell ⟨gc, 11, none⟩ (.bool (x8 == 1))).setCell ⟨gc, 12, none⟩ (.string y3)).setCell ⟨gc, 13, none⟩ (.int .i64 x9)).setCell ⟨gc, 14, none⟩ (.slice none 0 0)).drew) := ⟨_, rfl⟩
      rw [← hW21]
      have HC21 := Lib.hid (show W21.heap[gc]? = some (.cells #[.int .i64 x0, .int .i64 x1, .int .i64 x2, .string y0, .string y1, .string y2, .int .i64 x3, .int .i64 x4, .bool (x5 == 1), .int .i64 x6, .bool (x7 == 1), .bool (x8 == 1), .string y3, .int .i64 x9, .slice none 0 0] 50 (0, 0)) from by
        rw [hW21]
        have := set1 (set1 (set1 (set1 (set1 (set1 HC20.out 9 (.int .i64 x6)) 10 (.bool (x7 == 1))) 11 (.bool (x8 == 1))) 12 (.string y3)) 13 (.int .i64 x9)) 14 (.slice none 0 0)
        rw [drew_heap]
        simpa using this)
      have HB21 := Lib.hid (show Below wr.heap.size wr W21 from by
        rw [hW21]
        exact ((((((HB20.out.setCell (p := ⟨gc, 9, none⟩) HGC.out.1 _).setCell (p := ⟨gc, 10, none⟩) HGC.out.1 _).setCell (p := ⟨gc, 11, none⟩) HGC.out.1 _).setCell (p := ⟨gc, 12, none⟩) HGC.out.1 _).setCell (p := ⟨gc, 13, none⟩) HGC.out.1 _).setCell (p := ⟨gc, 14, none⟩) HGC.out.1 _).drew)
      clear hW21
      refine hK _ _ (HTB.out _ HB21.out) (fun _ => trivial) ?_
      clear hK K hT0 q9 zq9 q10 zq10 q11 zq11 q12 zq12 q13 zq13 q14 zq14
      try simp only [Act.put, List.setIfInBounds_toArray, List.set_cons_zero, List.set_cons_succ]
      refine Rr.till_done (by kernel_rfl) ?_ _
      go_wp2_with fail
      have HBX := Lib.hid (show ∀ W, Below wr.heap.size wr W → Below w2.heap.size w2 W from fun W hW => HBW.out.trans (hW.mono HBW.out.size))
      obtain ⟨p0, hp, hp0, hp1, hp2⟩ := info_parts infoP
      go_loopw [13] (fun i w6 => ∃ (j k : Nat) (pv : Value), j = 15 + 2 * k ∧ k ≤ m ∧ i = .int .i64 j ∧ pok ws k = true ∧ w6.heap[gc]? = some (.cells #[.int .i64 x0, .int .i64 x1, .int .i64 x2, .string y0, .string y1, .string y2, .int .i64 x3, .int .i64 x4, .bool (x5 == 1), .int .i64 x6, .bool (x7 == 1), .bool (x8 == 1), .string y3, .int .i64 x9, pv] 50 (0, 0)) ∧ w6.ownsRow (gc + 1) 95 2 pv k (cellsP (prsTo ws k)) ∧ Below wr.heap.size wr w6) (fun i _ => ws.length - (intOf i).toNat)
      case atStart => exact ⟨15, 0, .slice none 0 0, rfl, Nat.zero_le _, rfl, rfl, HC21.out, World.ownsRow_nil _ _ _ _, HB21.out⟩
      case round =>
        obtain ⟨j, k, pv, hj, hk, rfl, hpk, hc, hown, hB⟩ := hrel
        obtain ⟨PA, pc, rfl⟩ := owns_shape' hown
        have HC := Lib.hid hc
        have HO := Lib.hid hown
        have HPK := Lib.hid hpk
        have HBl := Lib.hid hB
        have HJ := Lib.hid hj
        have hbs6 := (HBX.out _ hB).size
        clear hc hown hpk hB
        by_cases hlt : k < m
        · have hjl : j + 1 < ws.length := by have := HM.out; omega
          obtain ⟨u1, hu1⟩ : ∃ u, ws[j]? = some u := ⟨_, List.getElem?_eq_getElem (by omega)⟩
          obtain ⟨u2, hu2⟩ : ∃ u, ws[j + 1]? = some u := ⟨_, List.getElem?_eq_getElem hjl⟩
          have HW1 := Lib.hid (show wAt ws (15 + 2 * k) = u1 from by rw [← hj]; exact wAt_of hu1)
          have HW2 := Lib.hid (show wAt ws (15 + 2 * k + 1) = u2 from by rw [← hj]; exact wAt_of hu2)
          have HU1 := Lib.hid hu1
          have HU2 := Lib.hid hu2
          have hus1 : u1.size ≤ 1000000 := HSM.out u1 (List.mem_of_getElem? hu1)
          have hus2 : u2.size ≤ 1000000 := HSM.out u2 (List.mem_of_getElem? hu2)
          have s1 : wr.cell? ⟨gl, j, none⟩ = some (.string u1) := HLB.out wr (HBX.out _ HBl.out) j u1 hu1
          obtain ⟨o1, ho1⟩ : ∃ x, x = Hxw.out u1 := ⟨_, rfl⟩
          obtain ⟨o2, ho2⟩ : ∃ x, x = Hxw.out u2 := ⟨_, rfl⟩
          obtain ⟨f1, hf1⟩ : ∃ x, x = Hxw.err u1 := ⟨_, rfl⟩
          obtain ⟨f2, hf2⟩ : ∃ x, x = Hxw.err u2 := ⟨_, rfl⟩
          have HP1 := Lib.hid (fun W => HxRef.parse_any u1 (by omega) W)
          have HP2 := Lib.hid (fun W => HxRef.parse_any u2 (by omega) W)
          rw [← ho1, ← hf1] at HP1
          rw [← ho2, ← hf2] at HP2
          have HBAD := Lib.hid (fun (h : ¬ (f1 = 0 ∧ f2 = 0)) => lineR_badp (ws := ws) (k := k) (by rw [HMM.out]; exact hlt) (by
            rw [HW1.out, HW2.out, ← hf1, ← hf2]
            by_cases g1 : f1 = 0
            · by_cases g2 : f2 = 0
              · exact absurd ⟨g1, g2⟩ h
              · rw [decide_eq_false g2, Bool.and_false]
            · rw [decide_eq_false g1, Bool.false_and]))
          have HPN := Lib.hid (show prsTo ws (k + 1) = prsTo ws k ++ [(o1, o2)] from by
            show prsTo ws k ++ [(Hxw.out (wAt ws (15 + 2 * k)), Hxw.out (wAt ws (15 + 2 * k + 1)))] = _
            rw [HW1.out, HW2.out, ← ho1, ← ho2])
          have HKN := Lib.hid (show f1 = 0 → f2 = 0 → pok ws (k + 1) = true from fun g1 g2 => by
            show (pok ws k && (decide (Hxw.err (wAt ws (15 + 2 * k)) = 0) && decide (Hxw.err (wAt ws (15 + 2 * k + 1)) = 0))) = true
            rw [HPK.out, HW1.out, HW2.out, ← hf1, ← hf2, g1, g2]; rfl)
          have hff1 : f1 = 0 ∨ f1 = 3 := by rw [hf1]; exact hx_err u1
          have hff2 : f2 = 0 ∨ f2 = 3 := by rw [hf2]; exact hx_err u2
          clear hu1 hu2 hus1 hus2 ho1 ho2 hf1 hf2 hj
          go_wp2_with fail
          refine (HP1.out _).mono ?_
          rintro e w5 ⟨rfl, hb5⟩
          have HB5 := Lib.hid (HBl.out.trans (hb5.mono HBl.out.size))
          have HB5' := Lib.hid hb5
          have s2 : w5.cell? ⟨gl, j + 1, none⟩ = some (.string u2) := HLB.out w5 (HBX.out _ HB5.out) (j + 1) u2 HU2.out
          clear hb5 s1
          go_wp2_with fail
          refine (HP2.out _).mono ?_
          rintro e w6 ⟨rfl, hb6⟩
          have HB6 := Lib.hid (HB5.out.trans (hb6.mono HB5.out.size))
          have HB6' := Lib.hid (HB5'.out.trans (hb6.mono HB5'.out.size))
          clear hb6 s2
          by_cases hbad : f1 = 0 ∧ f2 = 0
          · obtain ⟨rfl, rfl⟩ := hbad
            have HC6 := Lib.hid ((HB6'.out.block gc (lt_of_block HC.out)).trans HC.out)
            have y14 : w6.cell? ⟨gc, 14, none⟩ = some (.slice PA k pc) := cell_of' HC6.out 14
            have HOV := Lib.hid ((own_fr' HO.out HB6'.out).alloc (.cells #[.string o1, .string o2] 95))
            have hgc6 : gc + 1 ≤ w6.heap.size := lt_of_block HC6.out
            clear hff1 hff2
            go_wp2_with (at_builtin; (refine wpList_append_lies _ rfl _ _ 46 rfl (gc + 1) 95 p0 (.agg #[.string ⟨#[]⟩, .string ⟨#[]⟩]) 2 32 Tryd.underlying46 hp hp0 hp1 hp2 rfl (by decide) (.slice PA k pc) k (cellsP (prsTo ws k)) rfl HOV.out ⟨w6.heap.size, 0, none⟩ 1 1 [.string o1, .string o2] rfl rfl (World.news_of_block (cs := #[.string o1, .string o2]) (t := 95) (fr := (0, 0)) (heap_alloc_new w6 _)) (by simp [Value.oneCell']) (by omega) (by unfold maxLen; omega) (by omega) (by simp; omega) ((w6.alloc (.cells #[.string o1, .string o2] 95)).heap.size) rfl ?_; intro g cap w9 hown9 hgrow9 hat9 hlt9; have HO9 := Lib.hid hown9; have HC9 := Lib.hid (show w9.heap[gc]? = some (.cells #[.int .i64 x0, .int .i64 x1, .int .i64 x2, .string y0, .string y1, .string y2, .int .i64 x3, .int .i64 x4, .bool (x5 == 1), .int .i64 x6, .bool (x7 == 1), .bool (x8 == 1), .string y3, .int .i64 x9, .slice PA k pc] 50 (0, 0)) from (hgrow9.block gc (by simp; omega) (fun e => by have := (HOV.out.lt gc e.symm).1; omega)).trans (((Below.refl w6.heap.size w6).alloc (Nat.le_refl _) (.cells #[.string o1, .string o2] 95)).block gc (by omega) |>.trans HC6.out)); have HB9 := Lib.hid (((HB6.out.alloc HB6.out.size (.cells #[.string o1, .string o2] 95))).grown hgrow9 (by have := HB6.out.size; simp; omega) (fun jj hjj => by have := (HOV.out.lt jj hjj).1; have := HGC.out.1; omega)); have y14' : w9.cell? ⟨gc, 14, none⟩ = some (.slice PA k pc) := cell_of' HC9.out 14; have z14' := frozen_of' HC9.out 14; clear hown9 hgrow9 hat9 hlt9))
            go_roundw
            case rel =>
              refine ⟨j + 2, k + 1, .slice (some ⟨g, 0, none⟩) (k + 1) cap, by have := HJ.out; omega, by omega, by go_num, by first | exact HKN.out rfl rfl | exact HKN.out trivial trivial | simpa using HKN.out, ?_, ?_, HB9.out.setCell (p := ⟨gc, 14, none⟩) HGC.out.1 _⟩
              · have := set1 HC9.out 14 (.slice (some ⟨g, 0, none⟩) (k + 1) cap)
                simpa using this
              · rw [HPN.out, cellsP_snoc]
                exact own_fr HO9.out (Fr.set (S := fun q => q = gc) w9 (b := gc) rfl 14 _) (fun q hq => by omega)
            case measure => first | omega | (simp [intOf]; done) | (simp [intOf]; omega)
          · have HNO := Lib.hid (HBAD.out hbad)

            rcases hff1 with rfl | rfl
            · rcases hff2 with rfl | rfl
              · exact absurd ⟨rfl, rfl⟩ hbad
              · clear hbad
                go_wp2_with (refine wpList_store_row rfl 50 _ _ rfl w.heap.size #[.int .i64 0, .int .i64 0, .int .i64 0, .string ⟨#[]⟩, .string ⟨#[]⟩, .string ⟨#[]⟩, .int .i64 0, .int .i64 0, .bool false, .int .i64 0, .bool false, .bool false, .string ⟨#[]⟩, .int .i64 0, .slice none 0 0] rfl rfl 50 #[.int .i64 0, .int .i64 0, .int .i64 0, .string ⟨#[]⟩, .string ⟨#[]⟩, .string ⟨#[]⟩, .int .i64 0, .int .i64 0, .bool false, .int .i64 0, .bool false, .bool false, .string ⟨#[]⟩, .int .i64 0, .slice none 0 0] (HRB.out w6 (HBX.out _ HB6.out)) infoC1 rfl zero_one ?_; rw [setRow_self _ _ _ _ _ (HRB.out w6 (HBX.out _ HB6.out))])
                exact ⟨rfl, _, ret_call rfl (HRB.out w6 (HBX.out _ HB6.out)) rfl rfl, rzero_end (HNO.out) (HB0.out w6 (HBX.out _ HB6.out))⟩
            · clear hbad
              go_wp2_with (refine wpList_store_row rfl 50 _ _ rfl w.heap.size #[.int .i64 0, .int .i64 0, .int .i64 0, .string ⟨#[]⟩, .string ⟨#[]⟩, .string ⟨#[]⟩, .int .i64 0, .int .i64 0, .bool false, .int .i64 0, .bool false, .bool false, .string ⟨#[]⟩, .int .i64 0, .slice none 0 0] rfl rfl 50 #[.int .i64 0, .int .i64 0, .int .i64 0, .string ⟨#[]⟩, .string ⟨#[]⟩, .string ⟨#[]⟩, .int .i64 0, .int .i64 0, .bool false, .int .i64 0, .bool false, .bool false, .string ⟨#[]⟩, .int .i64 0, .slice none 0 0] (HRB.out w6 (HBX.out _ HB6.out)) infoC1 rfl zero_one ?_; rw [setRow_self _ _ _ _ _ (HRB.out w6 (HBX.out _ HB6.out))])
              exact ⟨rfl, _, ret_call rfl (HRB.out w6 (HBX.out _ HB6.out)) rfl rfl, rzero_end (HNO.out) (HB0.out w6 (HBX.out _ HB6.out))⟩
        · obtain rfl : k = m := by omega
          have b0 : ¬ (j < ws.length) := by have := HM.out; have := HJ.out; omega
          have HLE := Lib.hid (show lineR ws = (⟨x0, x1, ⟨x2, y0, y1, y2⟩, x3, x4, x5 == 1, ⟨x6, x7 == 1, x8 == 1, y3, x9, (prsTo ws k)⟩⟩, true) from by rw [HLR.out, HPK.out, if_pos rfl, HH.out])
          have hgw : ¬ gc = w.heap.size := by have := HGC.out.2; omega
          have hgw2 : ¬ w.heap.size = gc := by omega

          have q0 : wr.cell? ⟨gc, 0, none⟩ = some (.int .i64 x0) := cell_of' HC.out 0
          have q1 : wr.cell? ⟨gc, 1, none⟩ = some (.int .i64 x1) := cell_of' HC.out 1
          have q2 : wr.cell? ⟨gc, 2, none⟩ = some (.int .i64 x2) := cell_of' HC.out 2
          have q3 : wr.cell? ⟨gc, 3, none⟩ = some (.string y0) := cell_of' HC.out 3
          have q4 : wr.cell? ⟨gc, 4, none⟩ = some (.string y1) := cell_of' HC.out 4
          have q5 : wr.cell? ⟨gc, 5, none⟩ = some (.string y2) := cell_of' HC.out 5
          have q6 : wr.cell? ⟨gc, 6, none⟩ = some (.int .i64 x3) := cell_of' HC.out 6
          have q7 : wr.cell? ⟨gc, 7, none⟩ = some (.int .i64 x4) := cell_of' HC.out 7
          have q8 : wr.cell? ⟨gc, 8, none⟩ = some (.bool (x5 == 1)) := cell_of' HC.out 8
          have q9 : wr.cell? ⟨gc, 9, none⟩ = some (.int .i64 x6) := cell_of' HC.out 9
          have q10 : wr.cell? ⟨gc, 10, none⟩ = some (.bool (x7 == 1)) := cell_of' HC.out 10
          have q11 : wr.cell? ⟨gc, 11, none⟩ = some (.bool (x8 == 1)) := cell_of' HC.out 11
          have q12 : wr.cell? ⟨gc, 12, none⟩ = some (.string y3) := cell_of' HC.out 12
          have q13 : wr.cell? ⟨gc, 13, none⟩ = some (.int .i64 x9) := cell_of' HC.out 13
          have q14 : wr.cell? ⟨gc, 14, none⟩ = some (.slice PA k pc) := cell_of' HC.out 14
          have r0 : wr.cell? ⟨w.heap.size, 0, none⟩ = some (.int .i64 0) := cell_of' (HRB.out wr (HBX.out _ HBl.out)) 0
          have zr0 := frozen_of' (HRB.out wr (HBX.out _ HBl.out)) 0
          have r1 : wr.cell? ⟨w.heap.size, 1, none⟩ = some (.int .i64 0) := cell_of' (HRB.out wr (HBX.out _ HBl.out)) 1
          have zr1 := frozen_of' (HRB.out wr (HBX.out _ HBl.out)) 1
          have r2 : wr.cell? ⟨w.heap.size, 2, none⟩ = some (.int .i64 0) := cell_of' (HRB.out wr (HBX.out _ HBl.out)) 2
          have zr2 := frozen_of' (HRB.out wr (HBX.out _ HBl.out)) 2
          have r3 : wr.cell? ⟨w.heap.size, 3, none⟩ = some (.string ⟨#[]⟩) := cell_of' (HRB.out wr (HBX.out _ HBl.out)) 3
          have zr3 := frozen_of' (HRB.out wr (HBX.out _ HBl.out)) 3
          have r4 : wr.cell? ⟨w.heap.size, 4, none⟩ = some (.string ⟨#[]⟩) := cell_of' (HRB.out wr (HBX.out _ HBl.out)) 4
          have zr4 := frozen_of' (HRB.out wr (HBX.out _ HBl.out)) 4
          have r5 : wr.cell? ⟨w.heap.size, 5, none⟩ = some (.string ⟨#[]⟩) := cell_of' (HRB.out wr (HBX.out _ HBl.out)) 5
          have zr5 := frozen_of' (HRB.out wr (HBX.out _ HBl.out)) 5
          have r6 : wr.cell? ⟨w.heap.size, 6, none⟩ = some (.int .i64 0) := cell_of' (HRB.out wr (HBX.out _ HBl.out)) 6
          have zr6 := frozen_of' (HRB.out wr (HBX.out _ HBl.out)) 6
          have r7 : wr.cell? ⟨w.heap.size, 7, none⟩ = some (.int .i64 0) := cell_of' (HRB.out wr (HBX.out _ HBl.out)) 7
          have zr7 := frozen_of' (HRB.out wr (HBX.out _ HBl.out)) 7
          have r8 : wr.cell? ⟨w.heap.size, 8, none⟩ = some (.bool false) := cell_of' (HRB.out wr (HBX.out _ HBl.out)) 8
          have zr8 := frozen_of' (HRB.out wr (HBX.out _ HBl.out)) 8
          have r9 : wr.cell? ⟨w.heap.size, 9, none⟩ = some (.int .i64 0) := cell_of' (HRB.out wr (HBX.out _ HBl.out)) 9
          have zr9 := frozen_of' (HRB.out wr (HBX.out _ HBl.out)) 9
          have r10 : wr.cell? ⟨w.heap.size, 10, none⟩ = some (.bool false) := cell_of' (HRB.out wr (HBX.out _ HBl.out)) 10
          have zr10 := frozen_of' (HRB.out wr (HBX.out _ HBl.out)) 10
          have r11 : wr.cell? ⟨w.heap.size, 11, none⟩ = some (.bool false) := cell_of' (HRB.out wr (HBX.out _ HBl.out)) 11
          have zr11 := frozen_of' (HRB.out wr (HBX.out _ HBl.out)) 11
          have r12 : wr.cell? ⟨w.heap.size, 12, none⟩ = some (.string ⟨#[]⟩) := cell_of' (HRB.out wr (HBX.out _ HBl.out)) 12
          have zr12 := frozen_of' (HRB.out wr (HBX.out _ HBl.out)) 12
          have r13 : wr.cell? ⟨w.heap.size, 13, none⟩ = some (.int .i64 0) := cell_of' (HRB.out wr (HBX.out _ HBl.out)) 13
          have zr13 := frozen_of' (HRB.out wr (HBX.out _ HBl.out)) 13
          have r14 : wr.cell? ⟨w.heap.size, 14, none⟩ = some (.slice none 0 0) := cell_of' (HRB.out wr (HBX.out _ HBl.out)) 14
          have zr14 := frozen_of' (HRB.out wr (HBX.out _ HBl.out)) 14
          clear hlt hj
          go_wp2_with fail
          refine ⟨rfl, _, ret_call rfl (set15 (HRB.out wr (HBX.out _ HBl.out)) _ _ _ _ _ _ _ _ _ _ _ _ _ _ _) rfl rfl, .slice PA k pc, ?_, ?_, (below15 (HB0.out wr (HBX.out _ HBl.out)) (Nat.le_refl _) _ _ _ _ _ _ _ _ _ _ _ _ _ _ _)⟩
          · rw [HLE.out]; rfl
          · rw [HLE.out]
            show World.ownsRow _ _ _ 2 _ (prsTo ws k).length (cellsP (prsTo ws k))
            rw [prsTo_len]
            exact World.ownsRow.mono (own_fr HO.out (fr15 (S := fun q => q = w.heap.size) (Fr.refl _ wr) rfl _ _ _ _ _ _ _ _ _ _ _ _ _ _ _) (fun q hq => by have := HGC.out.2; omega)) (by have := HGC.out.2; omega)
end Go.Proofs.YtdibkhddhgaghaaDoor.Hs
