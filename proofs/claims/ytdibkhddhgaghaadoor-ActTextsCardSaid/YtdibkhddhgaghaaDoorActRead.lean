/- act.Read: the walk. -/
import Derived.Outline
import Derived.Test.YtdibkhddhgaghaaDoorActNum
namespace Go.Proofs.YtdibkhddhgaghaaDoor.Ac
open Go.RowKit
set_option linter.unusedVariables false
set_option linter.unusedSimpArgs false
/-- What the world must have. -/
structure Av (w : World) : Prop where
  ml : ∃ m, w.cell? ⟨2, 0, none⟩ = some (.int .i64 m)
  wds : Wds w
  pow : DgP.Pow w
  rng : DgW.Rng w
theorem Av.below {w w' : World} (h : Av w) (hb : Below w.heap.size w w') : Av w' :=
  ⟨by obtain ⟨m, hm⟩ := h.ml; exact ⟨m, (hb.cell (p := ⟨2, 0, none⟩) (World.block_lt_of_cell? w _ hm)).trans hm⟩, h.wds.below hb, DgP.pow_below h.pow hb, rng_below h.rng hb⟩
theorem ba_ext {a b : ByteArray} (h : a.data.toList = b.data.toList) : a = b := by
  obtain ⟨⟨a⟩⟩ := a
  obtain ⟨⟨b⟩⟩ := b
  simp at h
  rw [h]
theorem map_ext : ∀ {a b : List ByteArray}, a.map (·.data.toList) = b.map (·.data.toList) → a = b
  | [], [], _ => rfl
  | [], _ :: _, h => by simp at h
  | _ :: _, [], h => by simp at h
  | x :: a, y :: b, h => by
    simp only [List.map_cons, List.cons.injEq] at h
    rw [ba_ext h.1, map_ext h.2]
theorem split_parts (s : ByteArray) : Lib.splitB ⟨#[32]⟩ 0 (Lib.countB s ⟨#[32]⟩) s = Pt.parts 32 s := map_ext (by rw [Lib.splitB_data, Pt.parts_data]; exact Tx.split_sp 32 s.data.toList)
theorem split_any (w : World) (s : ByteArray) (hs : s.size ≤ 1000000) (hv : Av w) : Calls Tryd.prog 40 #[.string s, .string ⟨#[32]⟩] w fun e w' => e = .returned (.slice (some ⟨w.heap.size, 0, none⟩) (Pt.parts 32 s).length (Pt.parts 32 s).length) ∧ (∀ (i : Nat) t, (Pt.parts 32 s)[i]? = some t → w'.cell? ⟨w.heap.size, i, none⟩ = some (.string t)) ∧ w.heap.size < w'.heap.size ∧ Below w.heap.size w w' := by
  obtain ⟨m, hm⟩ := hv.ml
  refine (Tryd.strings_Split s ⟨#[32]⟩ m w (by omega) hm (by decide)).mono ?_
  rintro e w' ⟨rfl, rfl⟩
  have hl : Lib.countB s ⟨#[32]⟩ + 1 = (Pt.parts 32 s).length := by rw [← split_parts]; exact (Lib.splitB_all ⟨#[32]⟩ (by decide) 0 _ s rfl).symm
  rw [hl, split_parts]
  refine ⟨rfl, fun i t ht => ?_, by simp, (Below.refl _ _).alloc (Nat.le_refl _) _⟩
  rw [cell_of1' (heap_alloc_new w _)]
  simp [ht]
theorem sp_le (b : UInt8) : ∀ (l : List UInt8), ∀ p ∈ Tx.sp b l, p.length ≤ l.length
  | [], p, h => by simp [Tx.sp] at h; subst h; exact Nat.le_refl _
  | c :: t, p, h => by
    unfold Tx.sp at h
    split at h
    · rcases List.mem_cons.1 h with rfl | h
      · exact Nat.zero_le _
      · exact Nat.le_succ_of_le (sp_le b t p h)
    · split at h
      · simp at h; subst h; simp
      · rename_i q qs hq
        rcases List.mem_cons.1 h with rfl | h
        · have := sp_le b t q (by rw [hq]; exact List.mem_cons_self)
          simp; omega
        · exact Nat.le_succ_of_le (sp_le b t p (by rw [hq]; exact List.mem_cons_of_mem _ h))
theorem build_lo (ws : List ByteArray) (k : Nat) : -9223372036854775808 ≤ (build cellM (nAt ws) k).cell := by
  have r0 := nAt_rng ws 0
  have r1 := nAt_rng ws 1
  have h : ∀ z : Int, 0 ≤ z → -1 ≤ cellM z := fun z hz => by unfold cellM; split <;> omega
  have h0 := h _ r0.1
  have h1 := h _ r1.1
  unfold build zeroA
  split <;> (dsimp only; omega)
theorem find_at {p : Nat → Bool} {k : Nat} (hk : k < 7) (h : ∀ j, j < k → p j = false) (hp : p k = true) : (List.range 7).find? p = some k := by
  have e : List.range 7 = [0, 1, 2, 3, 4, 5, 6] := rfl
  rw [e]
  have hc : k = 0 ∨ k = 1 ∨ k = 2 ∨ k = 3 ∨ k = 4 ∨ k = 5 ∨ k = 6 := by omega
  rcases hc with rfl | rfl | rfl | rfl | rfl | rfl | rfl
  all_goals simp [List.find?, hp, h 0, h 1, h 2, h 3, h 4, h 5]
theorem find_none {p : Nat → Bool} (h : ∀ j, j < 7 → p j = false) : (List.range 7).find? p = none := by
  rw [List.find?_eq_none]
  intro j hj
  rw [h j (List.mem_range.1 hj)]
  simp
theorem readM_at {s : ByteArray} {ws : List ByteArray} {k : Nat} (hk : k < 7) (h : ∀ j, j < k → okM s ws j = false) (hp : okM s ws k = true) : readM s ws = (build cellM (nAt ws) k, 0) := by unfold readM; rw [find_at hk h hp]
theorem readM_none {s : ByteArray} {ws : List ByteArray} (h : ∀ j, j < 7 → okM s ws j = false) : readM s ws = (zeroA, 3) := by unfold readM; rw [find_none h]
theorem zone : (#[.int .i64 0, .int .u64 0, .int .i64 0, .int .u64 0, .int .u64 0] : Array Value).all (·.oneCell') = true := by simp [Value.oneCell']
theorem idx0 (D0 D1 D2 D3 D4 D5 D6 : ByteArray) (w : World) : (Instr.index 75 (.agg #[.string D0, .string D1, .string D2, .string D3, .string D4, .string D5, .string D6]) (.int .i64 0)).run Tryd.prog w = .ok (.string D0) w := by kernel_rfl
theorem idx1 (D0 D1 D2 D3 D4 D5 D6 : ByteArray) (w : World) : (Instr.index 75 (.agg #[.string D0, .string D1, .string D2, .string D3, .string D4, .string D5, .string D6]) (.int .i64 1)).run Tryd.prog w = .ok (.string D1) w := by kernel_rfl
theorem idx2 (D0 D1 D2 D3 D4 D5 D6 : ByteArray) (w : World) : (Instr.index 75 (.agg #[.string D0, .string D1, .string D2, .string D3, .string D4, .string D5, .string D6]) (.int .i64 2)).run Tryd.prog w = .ok (.string D2) w := by kernel_rfl
theorem idx3 (D0 D1 D2 D3 D4 D5 D6 : ByteArray) (w : World) : (Instr.index 75 (.agg #[.string D0, .string D1, .string D2, .string D3, .string D4, .string D5, .string D6]) (.int .i64 3)).run Tryd.prog w = .ok (.string D3) w := by kernel_rfl
theorem idx4 (D0 D1 D2 D3 D4 D5 D6 : ByteArray) (w : World) : (Instr.index 75 (.agg #[.string D0, .string D1, .string D2, .string D3, .string D4, .string D5, .string D6]) (.int .i64 4)).run Tryd.prog w = .ok (.string D4) w := by kernel_rfl
theorem idx5 (D0 D1 D2 D3 D4 D5 D6 : ByteArray) (w : World) : (Instr.index 75 (.agg #[.string D0, .string D1, .string D2, .string D3, .string D4, .string D5, .string D6]) (.int .i64 5)).run Tryd.prog w = .ok (.string D5) w := by kernel_rfl
theorem idx6 (D0 D1 D2 D3 D4 D5 D6 : ByteArray) (w : World) : (Instr.index 75 (.agg #[.string D0, .string D1, .string D2, .string D3, .string D4, .string D5, .string D6]) (.int .i64 6)).run Tryd.prog w = .ok (.string D6) w := by kernel_rfl
theorem infoA : (Tryd.prog.info? 24).map (·.size) = some 5 := by kernel_rfl
theorem ret_a {fn : Func} (hf : fn.results = #[.cell 2 24, .tmp 3]) {w : World} {b : Nat} {cs : Array Value} (h : w.heap[b]? = some (.cells cs 24 (0, 0))) (hcs : cs.size = 5) {tmps : Array Value} (hp : tmps.getD 2 undef = .pointer (some ⟨b, 0, none⟩)) :
    (results fn tmps).run Tryd.prog w = .ok (.tuple #[.agg cs, tmps.getD 3 undef]) w := by
  rw [results_cell_tmp hf, hp]
  have hi : (Tryd.prog.info? 24).map (·.size) = some cs.size := by rw [hcs]; exact infoA
  simp [asAddr, run_loadVar_row w b 24 24 cs (0, 0) _ h Tryd.underlying24 rfl hi]
theorem till_reg2 {P : Program} {ops : Array Oper} {Q : Exit → Act → World → Prop} {id : Nat} {a : Act} {w : World} (T S : World → Prop) (s1 : Nat) (hm : P.follows .mixedOrders = true) (h : Rr.wpTill P .any ops Q T S s1 ops.size (Array.replicate ops.size false) a w.drew) : (Code.region id ops true).wp P Q a w := wp_region_any hm (Rr.any_of_till _ _ _ _ h)
theorem toList_eq_iff (a b : ByteArray) : (a.toList == b.toList) = decide (a = b) := by
  rw [ByteArray.toList_eq, ByteArray.toList_eq, Bool.eq_iff_iff]
  simp only [beq_iff_eq, decide_eq_true_eq]
  exact ⟨fun h => ba_ext h, fun h => by rw [h]⟩
/-- Four cells. -/
def A4 (ga : Nat) (a0 a1 a2 a3 : Int) (w : World) : Prop := ∀ (j : Nat) u, ([.int .u64 a0, .int .u64 a1, .int .u64 a2, .int .u64 a3] : List Value)[j]? = some u → w.cell? ⟨ga, j, none⟩ = some u
set_option maxRecDepth 100000 in
set_option maxHeartbeats 32000000 in
theorem read_nil (w : World) (s : ByteArray) (hs : s.size ≤ 1000) (hv : Av w) (t0 : ByteArray) (hws : Pt.parts 32 s = t0 :: []) : Calls Tryd.prog 9 #[.string s] w fun e w' => e = .returned (.tuple #[encA (readM s (Pt.parts 32 s)).1, .int .i64 (readM s (Pt.parts 32 s)).2]) ∧ Below w.heap.size w w' := by
  have HV := Lib.hid hv
  have HSP := Lib.hid (fun W hW => split_any W s (by omega) (hv.below (w' := W) hW))
  have hsml : ∀ t ∈ Pt.parts 32 s, t.size ≤ 1000 := fun t ht => by
    have h1 : t.data.toList ∈ (Pt.parts 32 s).map (·.data.toList) := List.mem_map_of_mem ht
    rw [Pt.parts_data] at h1
    have := sp_le 32 s.data.toList _ h1
    have e1 := Pt.size_list t
    have e2 := Pt.size_list s
    omega
  have hwl : (Pt.parts 32 s).length ≤ 1001 := by
    have h2 := Pt.pt_len 32 s (s.size + 1)
    rw [Pt.pt_end] at h2
    omega
  have hpos : Pt.parts 32 s ≠ [] := fun e => by
    have := Pt.parts_data 32 s
    rw [e] at this
    exact Tx.sp_ne 32 _ this.symm
  generalize Pt.parts 32 s = ws at *
  subst hws
  obtain ⟨is, his⟩ : ∃ b, all4 [] = b := ⟨_, rfl⟩
  have HIS := Lib.hid (show (allW (t0 :: []) && decide ((t0 :: []).length ≤ 5)) = is from by
    rw [← his]
    unfold allW all4
    rw [List.tail_cons, List.length_cons]
    congr 1
    try (rw [Bool.eq_iff_iff]; simp))
  have hsz := hsml
  clear hv hpos hsml
  go_enter Tryd.func9, Tryd.ntmps9
  go_wp2_with fail
  refine (HSP.out _ ((Below.refl _ _).alloc (Nat.le_refl _) _)).mono ?_
  rintro e w1 ⟨rfl, hc1, hlt1, hb1⟩
  have HC1 := Lib.hid hc1
  obtain ⟨g, hg⟩ : ∃ g, g = (w.alloc (.cells #[.int .i64 0, .int .u64 0, .int .i64 0, .int .u64 0, .int .u64 0] 24)).heap.size := ⟨_, rfl⟩
  have HB1 := Lib.hid (show Below w.heap.size w w1 from ((Below.refl _ _).alloc (Nat.le_refl _) _).trans (hb1.mono (by simp)))
  have HZ1 := Lib.hid (show w1.heap[w.heap.size]? = some (.cells #[.int .i64 0, .int .u64 0, .int .i64 0, .int .u64 0, .int .u64 0] 24 (0, 0)) from (hb1.block w.heap.size (by simp)).trans (heap_alloc_new w _))
  rw [← hg] at HC1 hlt1 ⊢
  clear hg hc1 hb1
  have HNB := Lib.hid (numbers_any w1 (some ⟨g, 0, none⟩) 0 [] (fun j t ht => (by simp at ht)) (fun t ht => by have := hsz t (List.mem_cons_of_mem _ ht); omega) (by first | (simp; done) | (simp only [List.length_cons] at hwl ⊢; omega)) (HV.out.below HB1.out).rng)
  rw [his] at HNB
  clear hsz
  go_wp2_with fail
  refine HNB.out.mono ?_
  rintro e w2 ⟨a0, a1, a2, a3, rfl, hav, hb2⟩
  have HAV := Lib.hid (show is = true → a0 = nAt (t0 :: []) 0 ∧ a1 = nAt (t0 :: []) 1 ∧ a2 = nAt (t0 :: []) 2 ∧ a3 = nAt (t0 :: []) 3 from fun h => by
    have := hav h
    rw [← tv_tail, ← tv_tail, ← tv_tail, ← tv_tail]
    exact this)
  have HB2 := Lib.hid (HB1.out.trans (hb2.mono HB1.out.size))
  have HC2 := Lib.hid (show w2.cell? ⟨g, 0, none⟩ = some (.string t0) from (hb2.cell (p := ⟨g, 0, none⟩) hlt1).trans (HC1.out 0 t0 rfl))
  have HZ2 := Lib.hid ((hb2.block w.heap.size (lt_of_block HZ1.out)).trans HZ1.out)
  have hg2 : g < w2.heap.size := Nat.lt_of_lt_of_le hlt1 hb2.size
  clear hav hb2 his
  obtain ⟨w3, hw3⟩ : ∃ W, W = w2.alloc (.cells #[.int .u64 a0, .int .u64 a1, .int .u64 a2, .int .u64 a3] 72) := ⟨_, rfl⟩
  obtain ⟨ga, hga⟩ : ∃ x, x = w2.heap.size := ⟨_, rfl⟩
  have hsz3 : w3.heap.size = ga + 1 := by rw [hw3, hga]; simp
  have HB3 := Lib.hid (show Below w.heap.size w w3 from by rw [hw3]; exact HB2.out.alloc HB2.out.size _)
  have HB23 := Lib.hid (show Below w2.heap.size w2 w3 from by rw [hw3]; exact (Below.refl _ _).alloc (Nat.le_refl _) _)
  have HA := Lib.hid (show ∀ W, Below w3.heap.size w3 W → A4 ga a0 a1 a2 a3 W from fun W hW j u hu => by
    have h1 : w3.heap[ga]? = some (.cells #[.int .u64 a0, .int .u64 a1, .int .u64 a2, .int .u64 a3] 72 (0, 0)) := by rw [hw3, hga]; exact heap_alloc_new w2 _
    rw [cell_of1' ((hW.block ga (by omega)).trans h1)]
    simpa using hu)
  have HC := Lib.hid (show ∀ W, Below w3.heap.size w3 W → W.cell? ⟨g, 0, none⟩ = some (.string t0) from fun W hW => (hW.cell (p := ⟨g, 0, none⟩) (by show g < w3.heap.size; omega)).trans ((HB23.out.cell (p := ⟨g, 0, none⟩) hg2).trans HC2.out))
  have HZ := Lib.hid (show ∀ W, Below w3.heap.size w3 W → W.heap[w.heap.size]? = some (.cells #[.int .i64 0, .int .u64 0, .int .i64 0, .int .u64 0, .int .u64 0] 24 (0, 0)) from fun W hW => (hW.block w.heap.size (by have := lt_of_block HZ2.out; omega)).trans ((HB23.out.block w.heap.size (lt_of_block HZ2.out)).trans HZ2.out))
  have HBT := Lib.hid (show ∀ W, Below w3.heap.size w3 W → Below w.heap.size w W from fun W hW => HB3.out.trans (hW.mono HB3.out.size))
  have HTX := Lib.hid (fun (W : World) (hW : Below w3.heap.size w3 W) (k : Nat) => text_any W (build cellM (nAt (t0 :: [])) k) (build_ok (c := cellM) cellM_le).2 (build_lo (t0 :: []) k) (HV.out.below (HBT.out W hW)).wds (HV.out.below (HBT.out W hW)).pow)
  have HWD := Lib.hid (HV.out.below HB2.out).wds

  obtain ⟨D0, hD0'⟩ : ∃ x, x = ba (kw 0) := ⟨_, rfl⟩
  have hD0 := Lib.hid hD0'
  clear hD0'
  obtain ⟨D1, hD1'⟩ : ∃ x, x = ba (kw 1) := ⟨_, rfl⟩
  have hD1 := Lib.hid hD1'
  clear hD1'
  obtain ⟨D2, hD2'⟩ : ∃ x, x = ba (kw 2) := ⟨_, rfl⟩
  have hD2 := Lib.hid hD2'
  clear hD2'
  obtain ⟨D3, hD3'⟩ : ∃ x, x = ba (kw 3) := ⟨_, rfl⟩
  have hD3 := Lib.hid hD3'
  clear hD3'
  obtain ⟨D4, hD4'⟩ : ∃ x, x = ba (kw 4) := ⟨_, rfl⟩
  have hD4 := Lib.hid hD4'
  clear hD4'
  obtain ⟨D5, hD5'⟩ : ∃ x, x = ba (kw 5) := ⟨_, rfl⟩
  have hD5 := Lib.hid hD5'
  clear hD5'
  obtain ⟨D6, hD6'⟩ : ∃ x, x = ba (kw 6) := ⟨_, rfl⟩
  have hD6 := Lib.hid hD6'
  clear hD6'

  have hgw : 0 < w2.heap.size := by have := HV.out.wds.lt; have := HB2.out.size; omega
  have v0 : w2.cell? ⟨0, 0, none⟩ = some (.string D0) := by rw [hD0]; exact HWD.out.at_ 0 (by decide)
  have v1 : w2.cell? ⟨0, 1, none⟩ = some (.string D1) := by rw [hD1]; exact HWD.out.at_ 1 (by decide)
  have v2 : w2.cell? ⟨0, 2, none⟩ = some (.string D2) := by rw [hD2]; exact HWD.out.at_ 2 (by decide)
  have v3 : w2.cell? ⟨0, 3, none⟩ = some (.string D3) := by rw [hD3]; exact HWD.out.at_ 3 (by decide)
  have v4 : w2.cell? ⟨0, 4, none⟩ = some (.string D4) := by rw [hD4]; exact HWD.out.at_ 4 (by decide)
  have v5 : w2.cell? ⟨0, 5, none⟩ = some (.string D5) := by rw [hD5]; exact HWD.out.at_ 5 (by decide)
  have v6 : w2.cell? ⟨0, 6, none⟩ = some (.string D6) := by rw [hD6]; exact HWD.out.at_ 6 (by decide)
  go_wp2_with fail
  clear v0 v1 v2 v3 v4 v5 v6
  rw [← hw3, ← hga]
  clear hw3 hga
  go_loopw [19] (fun i wr => ∃ k : Nat, k ≤ 7 ∧ i = .int .i64 k ∧ (∀ j, j < k → okM s (t0 :: []) j = false) ∧ Below w3.heap.size w3 wr) (fun i _ => 7 - (intOf i).toNat)
  case atStart => exact ⟨0, Nat.zero_le _, rfl, fun j h => absurd h (Nat.not_lt_zero j), Below.refl _ _⟩
  case round =>
    obtain ⟨k, hk, rfl, hno, hB⟩ := hrel
    have HNO := Lib.hid hno
    have HB := Lib.hid hB
    have s0 : wr.cell? ⟨g, 0, none⟩ = some (.string t0) := HC.out wr hB
    have hwsz := hB.size
    clear hno hB
    by_cases h7 : k < 7
    rotate_left
    · obtain rfl : k = 7 := by omega
      have HE := Lib.hid (readM_none HNO.out)
      go_wp2_with (refine wpList_store_row rfl 24 _ _ rfl w.heap.size #[.int .i64 0, .int .u64 0, .int .i64 0, .int .u64 0, .int .u64 0] rfl rfl 24 #[.int .i64 0, .int .u64 0, .int .i64 0, .int .u64 0, .int .u64 0] (HZ.out wr HB.out) infoA rfl zone ?_; rw [setRow_self _ _ _ _ _ (HZ.out wr HB.out)])
      exact ⟨rfl, _, ret_a rfl (HZ.out wr HB.out) rfl rfl, by rw [HE.out]; rfl, HBT.out wr HB.out⟩
    have hkk : k = 0 ∨ k = 1 ∨ k = 2 ∨ k = 3 ∨ k = 4 ∨ k = 5 ∨ k = 6 := by omega
    rcases hkk with rfl | rfl | rfl | rfl | rfl | rfl | rfl
    · have hix := idx0 D0 D1 D2 D3 D4 D5 D6
      have HKW := Lib.hid (show kw 0 = D0.data.toList from by rw [hD0.out, ba_data])
      by_cases hd : D0 = t0
      rotate_left
      · have d0 : ¬ D0.toList = t0.toList := fun e => hd (ba_ext (by rw [← ByteArray.toList_eq, ← ByteArray.toList_eq]; exact e))
        have HF := Lib.hid (show okM s (t0 :: []) 0 = false from by
          unfold okM
          rw [decide_eq_false (show ¬ kw 0 = w0 (t0 :: []) from fun e => hd (ba_ext (by rw [← HKW.out, e]; rfl)))]
          rfl)
        clear hd
        go_wp2_with fail
        go_roundw
        case rel => exact ⟨1, by omega, by go_num, fun j hj => by
          by_cases e : j = 0
          · subst e; exact HF.out
          · exact HNO.out j (by omega), HB.out⟩
        case measure => first | omega | (simp [intOf]; done) | (simp [intOf]; omega)
      have d0 : D0.toList = t0.toList := by rw [hd]
      have HW0 := Lib.hid (show decide (kw 0 = w0 (t0 :: [])) = true from decide_eq_true (by rw [HKW.out, hd]; rfl))
      clear hd
      cases is with
      | false =>
        have HF := Lib.hid (show okM s (t0 :: []) 0 = false from by unfold okM; rw [HIS.out, Bool.and_false]; rfl)
        go_wp2_with fail
        go_roundw
        case rel => exact ⟨1, by omega, by go_num, fun j hj => by
          by_cases e : j = 0
          · subst e; exact HF.out
          · exact HNO.out j (by omega), HB.out⟩
        case measure => first | omega | (simp [intOf]; done) | (simp [intOf]; omega)
      | true =>
        obtain ⟨e0, e1, e2, e3⟩ := HAV.out rfl
        have HX := Lib.hid (show build cellM (nAt (t0 :: [])) 0 = ⟨0, 0, 0, 0, 0⟩ from by rfl)
        have HTK := Lib.hid (fun (W : World) (hW : Below w3.heap.size w3 W) => HTX.out W hW 0)
        rw [HX.out] at HTK
        unfold encA cellsA at HTK
        dsimp only at HTK
        obtain ⟨TT, hTT⟩ : ∃ x, x = ba (textA ⟨0, 0, 0, 0, 0⟩) := ⟨_, rfl⟩
        rw [← hTT] at HTK
        have HOK := Lib.hid (show okM s (t0 :: []) 0 = decide (TT = s) from by
          unfold okM
          rw [HW0.out, HIS.out, HX.out, hTT, Bool.true_and, Bool.true_and, Bool.eq_iff_iff, decide_eq_true_eq, decide_eq_true_eq]
          exact ⟨fun h => ba_ext (by rw [ba_data]; exact h), fun h => by rw [← h, ba_data]⟩)
        clear hTT e0 e1 e2 e3
        go_wp2_with fail
        have HBX := Lib.hid (show Below w3.heap.size w3 (wr.alloc (.cells #[.int .i64 0, .int .u64 0, .int .i64 0, .int .u64 0, .int .u64 0] 24)) from HB.out.alloc HB.out.size _)
        refine (HTK.out _ HBX.out).mono ?_
        rintro e w6 ⟨rfl, hb6⟩
        have HB6 := Lib.hid (HBX.out.trans (hb6.mono HBX.out.size))
        have HX6 := Lib.hid (show w6.heap[wr.heap.size]? = some (.cells #[.int .i64 0, .int .u64 0, .int .i64 0, .int .u64 0, .int .u64 0] 24 (0, 0)) from (hb6.block wr.heap.size (by simp)).trans (heap_alloc_new wr _))
        clear hb6
        have x0 : w6.cell? ⟨wr.heap.size, 0, none⟩ = some (.int .i64 0) := cell_of1' HX6.out 0
        have x1 : w6.cell? ⟨wr.heap.size, 1, none⟩ = some (.int .u64 0) := cell_of1' HX6.out 1
        have x2 : w6.cell? ⟨wr.heap.size, 2, none⟩ = some (.int .i64 0) := cell_of1' HX6.out 2
        have x3 : w6.cell? ⟨wr.heap.size, 3, none⟩ = some (.int .u64 0) := cell_of1' HX6.out 3
        have x4 : w6.cell? ⟨wr.heap.size, 4, none⟩ = some (.int .u64 0) := cell_of1' HX6.out 4
        by_cases hts : TT = s
        · have d1 : TT.toList = s.toList := by rw [hts]
          have HE := Lib.hid (readM_at (k := 0) (by decide) HNO.out (by rw [HOK.out, decide_eq_true hts]))
          rw [HX.out] at HE
          clear hts
          go_wp2_with (refine wpList_store_row rfl 24 _ _ rfl w.heap.size #[.int .i64 0, .int .u64 0, .int .i64 0, .int .u64 0, .int .u64 0] rfl rfl 24 #[.int .i64 0, .int .u64 0, .int .i64 0, .int .u64 0, .int .u64 0] (HZ.out w6 HB6.out) infoA rfl (by simp [Value.oneCell']) ?_)
          exact ⟨rfl, _, ret_a rfl (setRow_heap _ _ _ _ _ _ (HZ.out w6 HB6.out)) rfl rfl, by rw [HE.out]; rfl, below_setRow (HBT.out w6 HB6.out) (Nat.le_refl _) _⟩
        · have d1 : ¬ (TT.toList == s.toList) = true := fun e => hts (by rw [toList_eq_iff] at e; exact of_decide_eq_true e)
          have HF := Lib.hid (show okM s (t0 :: []) 0 = false from by rw [HOK.out, decide_eq_false hts])
          clear hts
          go_wp2_with fail
          go_roundw
          case rel => exact ⟨1, by omega, by go_num, fun j hj => by
            by_cases e : j = 0
            · subst e; exact HF.out
            · exact HNO.out j (by omega), HB6.out⟩
          case measure => first | omega | (simp [intOf]; done) | (simp [intOf]; omega)
    · have hix := idx1 D0 D1 D2 D3 D4 D5 D6
      have HKW := Lib.hid (show kw 1 = D1.data.toList from by rw [hD1.out, ba_data])
      by_cases hd : D1 = t0
      rotate_left
      · have d0 : ¬ D1.toList = t0.toList := fun e => hd (ba_ext (by rw [← ByteArray.toList_eq, ← ByteArray.toList_eq]; exact e))
        have HF := Lib.hid (show okM s (t0 :: []) 1 = false from by
          unfold okM
          rw [decide_eq_false (show ¬ kw 1 = w0 (t0 :: []) from fun e => hd (ba_ext (by rw [← HKW.out, e]; rfl)))]
          rfl)
        clear hd
        go_wp2_with fail
        go_roundw
        case rel => exact ⟨2, by omega, by go_num, fun j hj => by
          by_cases e : j = 1
          · subst e; exact HF.out
          · exact HNO.out j (by omega), HB.out⟩
        case measure => first | omega | (simp [intOf]; done) | (simp [intOf]; omega)
      have d0 : D1.toList = t0.toList := by rw [hd]
      have HW0 := Lib.hid (show decide (kw 1 = w0 (t0 :: [])) = true from decide_eq_true (by rw [HKW.out, hd]; rfl))
      clear hd
      cases is with
      | false =>
        have HF := Lib.hid (show okM s (t0 :: []) 1 = false from by unfold okM; rw [HIS.out, Bool.and_false]; rfl)
        go_wp2_with fail
        go_roundw
        case rel => exact ⟨2, by omega, by go_num, fun j hj => by
          by_cases e : j = 1
          · subst e; exact HF.out
          · exact HNO.out j (by omega), HB.out⟩
        case measure => first | omega | (simp [intOf]; done) | (simp [intOf]; omega)
      | true =>
        obtain ⟨e0, e1, e2, e3⟩ := HAV.out rfl
        obtain ⟨cm, hcm⟩ : ∃ x, x = cellM a1 := ⟨_, rfl⟩
        have HCL := Lib.hid (fun (W : World) => show Calls Tryd.prog 42 #[.int .u64 a1] W fun e w' => e = .returned (.int .i64 cm) ∧ w' = W from by rw [hcm]; exact cell_any W a1 (by rw [e1]; exact (nAt_rng _ 1).1) (by rw [e1]; exact (nAt_rng _ 1).2))
        have HX := Lib.hid (show build cellM (nAt (t0 :: [])) 1 = ⟨1, a0, cm, 0, 0⟩ from by rw [hcm, e0, e1]; rfl)
        have HTK := Lib.hid (fun (W : World) (hW : Below w3.heap.size w3 W) => HTX.out W hW 1)
        rw [HX.out] at HTK
        unfold encA cellsA at HTK
        dsimp only at HTK
        obtain ⟨TT, hTT⟩ : ∃ x, x = ba (textA ⟨1, a0, cm, 0, 0⟩) := ⟨_, rfl⟩
        rw [← hTT] at HTK
        have HOK := Lib.hid (show okM s (t0 :: []) 1 = decide (TT = s) from by
          unfold okM
          rw [HW0.out, HIS.out, HX.out, hTT, Bool.true_and, Bool.true_and, Bool.eq_iff_iff, decide_eq_true_eq, decide_eq_true_eq]
          exact ⟨fun h => ba_ext (by rw [ba_data]; exact h), fun h => by rw [← h, ba_data]⟩)
        clear hTT hcm e0 e1 e2 e3
        go_wp2_with fail
        have HBA := Lib.hid (show Below w3.heap.size w3 (wr.alloc (.cells #[.int .i64 1, .int .u64 0, .int .i64 0, .int .u64 0, .int .u64 0] 24)) from HB.out.alloc HB.out.size _)
        have hT0 : A4 ga a0 a1 a2 a3 (wr.alloc (.cells #[.int .i64 1, .int .u64 0, .int .i64 0, .int .u64 0, .int .u64 0] 24)).drew := HA.out _ HBA.out.drew
        refine till_reg2 (A4 ga a0 a1 a2 a3) (fun _ => True) 8 (by kernel_rfl) ?_
        refine Rr.take_T 0 (v := ?v10) rfl (by kernel_rfl) (by kernel_rfl) (by kernel_rfl) (by kernel_rfl) (fun _ _ _ h => h) hT0 (fun _ => trivial) (Or.inl ⟨by rfl, ?y10⟩) ?z10
        case y10 =>
          intro wz hz
          go_simp
          try with_reducible rfl
        case z10 =>
        try simp only [Act.put, List.setIfInBounds_toArray, List.set_cons_zero, List.set_cons_succ]
        refine Rr.take_T 1 (v := ?v11) rfl (by kernel_rfl) (by kernel_rfl) (by kernel_rfl) (by kernel_rfl) (fun _ _ _ h => h) hT0 (fun _ => trivial) (Or.inl ⟨by rfl, ?y11⟩) ?z11
        case y11 =>
          intro wz hz
          have hc : wz.cell? ⟨ga, 0, none⟩ = some (.int .u64 a0) := hz 0 _ rfl
          go_simp
          try with_reducible rfl
        case z11 =>
        try simp only [Act.put, List.setIfInBounds_toArray, List.set_cons_zero, List.set_cons_succ]
        refine Rr.take_T 2 (v := ?v12) rfl (by kernel_rfl) (by kernel_rfl) (by kernel_rfl) (by kernel_rfl) (fun _ _ _ h => h) hT0 (fun _ => trivial) (Or.inl ⟨by rfl, ?y12⟩) ?z12
        case y12 =>
          intro wz hz
          go_simp
          try with_reducible rfl
        case z12 =>
        try simp only [Act.put, List.setIfInBounds_toArray, List.set_cons_zero, List.set_cons_succ]
        refine Rr.take_T 3 (v := ?v13) rfl (by kernel_rfl) (by kernel_rfl) (by kernel_rfl) (by kernel_rfl) (fun _ _ _ h => h) hT0 (fun _ => trivial) (Or.inl ⟨by rfl, ?y13⟩) ?z13
        case y13 =>
          intro wz hz
          have hc : wz.cell? ⟨ga, 1, none⟩ = some (.int .u64 a1) := hz 1 _ rfl
          go_simp
          try with_reducible rfl
        case z13 =>
        try simp only [Act.put, List.setIfInBounds_toArray, List.set_cons_zero, List.set_cons_succ]
        refine Rr.take_T 5 (v := ?v15) rfl (by kernel_rfl) (by kernel_rfl) (by kernel_rfl) (by kernel_rfl) (fun _ _ _ h => h) hT0 (fun _ => trivial) (Or.inl ⟨by rfl, ?y15⟩) ?z15
        case y15 =>
          intro wz hz
          go_simp
          try with_reducible rfl
        case z15 =>
        try simp only [Act.put, List.setIfInBounds_toArray, List.set_cons_zero, List.set_cons_succ]
        refine Rr.till_all [4] (by kernel_rfl) (by simp) (List.forall_mem_cons.2 ⟨fun K hK => ?_, fun i hi => by cases hi⟩)
        refine Rr.op_at _ rfl ?_
        go_simp
        refine (HCL.out _).mono ?_
        rintro e w5 ⟨rfl, rfl⟩
        refine hK _ _ hT0 (fun _ => trivial) ?_
        clear hK K
        try simp only [Act.put, List.setIfInBounds_toArray, List.set_cons_zero, List.set_cons_succ]
        refine Rr.till_all [6] (by kernel_rfl) (by simp) (List.forall_mem_cons.2 ⟨fun K hK => ?_, fun i hi => by cases hi⟩)
        refine Rr.op_at _ rfl ?_
        go_simp
        refine hK _ _ (HA.out _ ((HB.out.alloc HB.out.size _).drew)) (fun _ => trivial) ?_
        clear hK K
        try simp only [Act.put, List.setIfInBounds_toArray, List.set_cons_zero, List.set_cons_succ]
        refine Rr.take_T 7 (v := ?v17) rfl (by kernel_rfl) (by kernel_rfl) (by kernel_rfl) (by kernel_rfl) (fun _ _ _ h => h) (HA.out _ ((HB.out.alloc HB.out.size _).drew)) (fun _ => trivial) (Or.inl ⟨by rfl, ?y17⟩) ?z17
        case y17 =>
          intro wz hz
          go_simp
          try with_reducible rfl
        case z17 =>
        try simp only [Act.put, List.setIfInBounds_toArray, List.set_cons_zero, List.set_cons_succ]
        refine Rr.till_all [8] (by kernel_rfl) (by simp) (List.forall_mem_cons.2 ⟨fun K hK => ?_, fun i hi => by cases hi⟩)
        refine Rr.op_at _ rfl ?_
        go_simp
        refine hK _ _ (HA.out _ ((HB.out.alloc HB.out.size _).drew)) (fun _ => trivial) ?_
        clear hK K
        try simp only [Act.put, List.setIfInBounds_toArray, List.set_cons_zero, List.set_cons_succ]
        refine Rr.till_done (by kernel_rfl) ?_ _
        clear hT0
        go_wp2_with fail
        have HBX := Lib.hid (show Below w3.heap.size w3 ((wr.alloc (.cells #[.int .i64 1, .int .u64 a0, .int .i64 cm, .int .u64 0, .int .u64 0] 24)).drew) from (HB.out.alloc HB.out.size _).drew)
        refine (HTK.out _ HBX.out).mono ?_
        rintro e w6 ⟨rfl, hb6⟩
        have HB6 := Lib.hid (HBX.out.trans (hb6.mono HBX.out.size))
        have HX6 := Lib.hid (show w6.heap[wr.heap.size]? = some (.cells #[.int .i64 1, .int .u64 a0, .int .i64 cm, .int .u64 0, .int .u64 0] 24 (0, 0)) from (hb6.block wr.heap.size (by simp)).trans (heap_alloc_new wr _))
        clear hb6
        have x0 : w6.cell? ⟨wr.heap.size, 0, none⟩ = some (.int .i64 1) := cell_of1' HX6.out 0
        have x1 : w6.cell? ⟨wr.heap.size, 1, none⟩ = some (.int .u64 a0) := cell_of1' HX6.out 1
        have x2 : w6.cell? ⟨wr.heap.size, 2, none⟩ = some (.int .i64 cm) := cell_of1' HX6.out 2
        have x3 : w6.cell? ⟨wr.heap.size, 3, none⟩ = some (.int .u64 0) := cell_of1' HX6.out 3
        have x4 : w6.cell? ⟨wr.heap.size, 4, none⟩ = some (.int .u64 0) := cell_of1' HX6.out 4
        by_cases hts : TT = s
        · have d1 : TT.toList = s.toList := by rw [hts]
          have HE := Lib.hid (readM_at (k := 1) (by decide) HNO.out (by rw [HOK.out, decide_eq_true hts]))
          rw [HX.out] at HE
          clear hts
          go_wp2_with (refine wpList_store_row rfl 24 _ _ rfl w.heap.size #[.int .i64 1, .int .u64 a0, .int .i64 cm, .int .u64 0, .int .u64 0] rfl rfl 24 #[.int .i64 0, .int .u64 0, .int .i64 0, .int .u64 0, .int .u64 0] (HZ.out w6 HB6.out) infoA rfl (by simp [Value.oneCell']) ?_)
          exact ⟨rfl, _, ret_a rfl (setRow_heap _ _ _ _ _ _ (HZ.out w6 HB6.out)) rfl rfl, by rw [HE.out]; rfl, below_setRow (HBT.out w6 HB6.out) (Nat.le_refl _) _⟩
        · have d1 : ¬ (TT.toList == s.toList) = true := fun e => hts (by rw [toList_eq_iff] at e; exact of_decide_eq_true e)
          have HF := Lib.hid (show okM s (t0 :: []) 1 = false from by rw [HOK.out, decide_eq_false hts])
          clear hts
          go_wp2_with fail
          go_roundw
          case rel => exact ⟨2, by omega, by go_num, fun j hj => by
            by_cases e : j = 1
            · subst e; exact HF.out
            · exact HNO.out j (by omega), HB6.out⟩
          case measure => first | omega | (simp [intOf]; done) | (simp [intOf]; omega)
    · have hix := idx2 D0 D1 D2 D3 D4 D5 D6
      have HKW := Lib.hid (show kw 2 = D2.data.toList from by rw [hD2.out, ba_data])
      by_cases hd : D2 = t0
      rotate_left
      · have d0 : ¬ D2.toList = t0.toList := fun e => hd (ba_ext (by rw [← ByteArray.toList_eq, ← ByteArray.toList_eq]; exact e))
        have HF := Lib.hid (show okM s (t0 :: []) 2 = false from by
          unfold okM
          rw [decide_eq_false (show ¬ kw 2 = w0 (t0 :: []) from fun e => hd (ba_ext (by rw [← HKW.out, e]; rfl)))]
          rfl)
        clear hd
        go_wp2_with fail
        go_roundw
        case rel => exact ⟨3, by omega, by go_num, fun j hj => by
          by_cases e : j = 2
          · subst e; exact HF.out
          · exact HNO.out j (by omega), HB.out⟩
        case measure => first | omega | (simp [intOf]; done) | (simp [intOf]; omega)
      have d0 : D2.toList = t0.toList := by rw [hd]
      have HW0 := Lib.hid (show decide (kw 2 = w0 (t0 :: [])) = true from decide_eq_true (by rw [HKW.out, hd]; rfl))
      clear hd
      cases is with
      | false =>
        have HF := Lib.hid (show okM s (t0 :: []) 2 = false from by unfold okM; rw [HIS.out, Bool.and_false]; rfl)
        go_wp2_with fail
        go_roundw
        case rel => exact ⟨3, by omega, by go_num, fun j hj => by
          by_cases e : j = 2
          · subst e; exact HF.out
          · exact HNO.out j (by omega), HB.out⟩
        case measure => first | omega | (simp [intOf]; done) | (simp [intOf]; omega)
      | true =>
        obtain ⟨e0, e1, e2, e3⟩ := HAV.out rfl
        obtain ⟨cm, hcm⟩ : ∃ x, x = cellM a1 := ⟨_, rfl⟩
        have HCL := Lib.hid (fun (W : World) => show Calls Tryd.prog 42 #[.int .u64 a1] W fun e w' => e = .returned (.int .i64 cm) ∧ w' = W from by rw [hcm]; exact cell_any W a1 (by rw [e1]; exact (nAt_rng _ 1).1) (by rw [e1]; exact (nAt_rng _ 1).2))
        have HX := Lib.hid (show build cellM (nAt (t0 :: [])) 2 = ⟨2, a0, cm, 0, a2⟩ from by rw [hcm, e0, e1, e2]; rfl)
        have HTK := Lib.hid (fun (W : World) (hW : Below w3.heap.size w3 W) => HTX.out W hW 2)
        rw [HX.out] at HTK
        unfold encA cellsA at HTK
        dsimp only at HTK
        obtain ⟨TT, hTT⟩ : ∃ x, x = ba (textA ⟨2, a0, cm, 0, a2⟩) := ⟨_, rfl⟩
        rw [← hTT] at HTK
        have HOK := Lib.hid (show okM s (t0 :: []) 2 = decide (TT = s) from by
          unfold okM
          rw [HW0.out, HIS.out, HX.out, hTT, Bool.true_and, Bool.true_and, Bool.eq_iff_iff, decide_eq_true_eq, decide_eq_true_eq]
          exact ⟨fun h => ba_ext (by rw [ba_data]; exact h), fun h => by rw [← h, ba_data]⟩)
        clear hTT hcm e0 e1 e2 e3
        go_wp2_with fail
        have HBA := Lib.hid (show Below w3.heap.size w3 (wr.alloc (.cells #[.int .i64 2, .int .u64 0, .int .i64 0, .int .u64 0, .int .u64 0] 24)) from HB.out.alloc HB.out.size _)
        have hT0 : A4 ga a0 a1 a2 a3 (wr.alloc (.cells #[.int .i64 2, .int .u64 0, .int .i64 0, .int .u64 0, .int .u64 0] 24)).drew := HA.out _ HBA.out.drew
        refine till_reg2 (A4 ga a0 a1 a2 a3) (fun _ => True) 12 (by kernel_rfl) ?_
        refine Rr.take_T 0 (v := ?v20) rfl (by kernel_rfl) (by kernel_rfl) (by kernel_rfl) (by kernel_rfl) (fun _ _ _ h => h) hT0 (fun _ => trivial) (Or.inl ⟨by rfl, ?y20⟩) ?z20
        case y20 =>
          intro wz hz
          go_simp
          try with_reducible rfl
        case z20 =>
        try simp only [Act.put, List.setIfInBounds_toArray, List.set_cons_zero, List.set_cons_succ]
        refine Rr.take_T 1 (v := ?v21) rfl (by kernel_rfl) (by kernel_rfl) (by kernel_rfl) (by kernel_rfl) (fun _ _ _ h => h) hT0 (fun _ => trivial) (Or.inl ⟨by rfl, ?y21⟩) ?z21
        case y21 =>
          intro wz hz
          have hc : wz.cell? ⟨ga, 0, none⟩ = some (.int .u64 a0) := hz 0 _ rfl
          go_simp
          try with_reducible rfl
        case z21 =>
        try simp only [Act.put, List.setIfInBounds_toArray, List.set_cons_zero, List.set_cons_succ]
        refine Rr.take_T 2 (v := ?v22) rfl (by kernel_rfl) (by kernel_rfl) (by kernel_rfl) (by kernel_rfl) (fun _ _ _ h => h) hT0 (fun _ => trivial) (Or.inl ⟨by rfl, ?y22⟩) ?z22
        case y22 =>
          intro wz hz
          go_simp
          try with_reducible rfl
        case z22 =>
        try simp only [Act.put, List.setIfInBounds_toArray, List.set_cons_zero, List.set_cons_succ]
        refine Rr.take_T 3 (v := ?v23) rfl (by kernel_rfl) (by kernel_rfl) (by kernel_rfl) (by kernel_rfl) (fun _ _ _ h => h) hT0 (fun _ => trivial) (Or.inl ⟨by rfl, ?y23⟩) ?z23
        case y23 =>
          intro wz hz
          have hc : wz.cell? ⟨ga, 1, none⟩ = some (.int .u64 a1) := hz 1 _ rfl
          go_simp
          try with_reducible rfl
        case z23 =>
        try simp only [Act.put, List.setIfInBounds_toArray, List.set_cons_zero, List.set_cons_succ]
        refine Rr.take_T 5 (v := ?v25) rfl (by kernel_rfl) (by kernel_rfl) (by kernel_rfl) (by kernel_rfl) (fun _ _ _ h => h) hT0 (fun _ => trivial) (Or.inl ⟨by rfl, ?y25⟩) ?z25
        case y25 =>
          intro wz hz
          go_simp
          try with_reducible rfl
        case z25 =>
        try simp only [Act.put, List.setIfInBounds_toArray, List.set_cons_zero, List.set_cons_succ]
        refine Rr.take_T 6 (v := ?v26) rfl (by kernel_rfl) (by kernel_rfl) (by kernel_rfl) (by kernel_rfl) (fun _ _ _ h => h) hT0 (fun _ => trivial) (Or.inl ⟨by rfl, ?y26⟩) ?z26
        case y26 =>
          intro wz hz
          have hc : wz.cell? ⟨ga, 2, none⟩ = some (.int .u64 a2) := hz 2 _ rfl
          go_simp
          try with_reducible rfl
        case z26 =>
        try simp only [Act.put, List.setIfInBounds_toArray, List.set_cons_zero, List.set_cons_succ]
        refine Rr.take_T 7 (v := ?v27) rfl (by kernel_rfl) (by kernel_rfl) (by kernel_rfl) (by kernel_rfl) (fun _ _ _ h => h) hT0 (fun _ => trivial) (Or.inl ⟨by rfl, ?y27⟩) ?z27
        case y27 =>
          intro wz hz
          go_simp
          try with_reducible rfl
        case z27 =>
        try simp only [Act.put, List.setIfInBounds_toArray, List.set_cons_zero, List.set_cons_succ]
        refine Rr.till_all [4] (by kernel_rfl) (by simp) (List.forall_mem_cons.2 ⟨fun K hK => ?_, fun i hi => by cases hi⟩)
        refine Rr.op_at _ rfl ?_
        go_simp
        refine (HCL.out _).mono ?_
        rintro e w5 ⟨rfl, rfl⟩
        refine hK _ _ hT0 (fun _ => trivial) ?_
        clear hK K
        try simp only [Act.put, List.setIfInBounds_toArray, List.set_cons_zero, List.set_cons_succ]
        refine Rr.till_all [8] (by kernel_rfl) (by simp) (List.forall_mem_cons.2 ⟨fun K hK => ?_, fun i hi => by cases hi⟩)
        refine Rr.op_at _ rfl ?_
        go_simp
        refine hK _ _ (HA.out _ ((HB.out.alloc HB.out.size _).drew)) (fun _ => trivial) ?_
        clear hK K
        try simp only [Act.put, List.setIfInBounds_toArray, List.set_cons_zero, List.set_cons_succ]
        refine Rr.take_T 9 (v := ?v29) rfl (by kernel_rfl) (by kernel_rfl) (by kernel_rfl) (by kernel_rfl) (fun _ _ _ h => h) (HA.out _ ((HB.out.alloc HB.out.size _).drew)) (fun _ => trivial) (Or.inl ⟨by rfl, ?y29⟩) ?z29
        case y29 =>
          intro wz hz
          go_simp
          try with_reducible rfl
        case z29 =>
        try simp only [Act.put, List.setIfInBounds_toArray, List.set_cons_zero, List.set_cons_succ]
        refine Rr.till_all [10] (by kernel_rfl) (by simp) (List.forall_mem_cons.2 ⟨fun K hK => ?_, fun i hi => by cases hi⟩)
        refine Rr.op_at _ rfl ?_
        go_simp
        refine hK _ _ (HA.out _ ((HB.out.alloc HB.out.size _).drew)) (fun _ => trivial) ?_
        clear hK K
        try simp only [Act.put, List.setIfInBounds_toArray, List.set_cons_zero, List.set_cons_succ]
        refine Rr.take_T 11 (v := ?v211) rfl (by kernel_rfl) (by kernel_rfl) (by kernel_rfl) (by kernel_rfl) (fun _ _ _ h => h) (HA.out _ ((HB.out.alloc HB.out.size _).drew)) (fun _ => trivial) (Or.inl ⟨by rfl, ?y211⟩) ?z211
        case y211 =>
          intro wz hz
          go_simp
          try with_reducible rfl
        case z211 =>
        try simp only [Act.put, List.setIfInBounds_toArray, List.set_cons_zero, List.set_cons_succ]
        refine Rr.till_all [12] (by kernel_rfl) (by simp) (List.forall_mem_cons.2 ⟨fun K hK => ?_, fun i hi => by cases hi⟩)
        refine Rr.op_at _ rfl ?_
        go_simp
        refine hK _ _ (HA.out _ ((HB.out.alloc HB.out.size _).drew)) (fun _ => trivial) ?_
        clear hK K
        try simp only [Act.put, List.setIfInBounds_toArray, List.set_cons_zero, List.set_cons_succ]
        refine Rr.till_done (by kernel_rfl) ?_ _
        clear hT0
        go_wp2_with fail
        have HBX := Lib.hid (show Below w3.heap.size w3 ((wr.alloc (.cells #[.int .i64 2, .int .u64 a0, .int .i64 cm, .int .u64 0, .int .u64 a2] 24)).drew) from (HB.out.alloc HB.out.size _).drew)
        refine (HTK.out _ HBX.out).mono ?_
        rintro e w6 ⟨rfl, hb6⟩
        have HB6 := Lib.hid (HBX.out.trans (hb6.mono HBX.out.size))
        have HX6 := Lib.hid (show w6.heap[wr.heap.size]? = some (.cells #[.int .i64 2, .int .u64 a0, .int .i64 cm, .int .u64 0, .int .u64 a2] 24 (0, 0)) from (hb6.block wr.heap.size (by simp)).trans (heap_alloc_new wr _))
        clear hb6
        have x0 : w6.cell? ⟨wr.heap.size, 0, none⟩ = some (.int .i64 2) := cell_of1' HX6.out 0
        have x1 : w6.cell? ⟨wr.heap.size, 1, none⟩ = some (.int .u64 a0) := cell_of1' HX6.out 1
        have x2 : w6.cell? ⟨wr.heap.size, 2, none⟩ = some (.int .i64 cm) := cell_of1' HX6.out 2
        have x3 : w6.cell? ⟨wr.heap.size, 3, none⟩ = some (.int .u64 0) := cell_of1' HX6.out 3
        have x4 : w6.cell? ⟨wr.heap.size, 4, none⟩ = some (.int .u64 a2) := cell_of1' HX6.out 4
        by_cases hts : TT = s
        · have d1 : TT.toList = s.toList := by rw [hts]
          have HE := Lib.hid (readM_at (k := 2) (by decide) HNO.out (by rw [HOK.out, decide_eq_true hts]))
          rw [HX.out] at HE
          clear hts
          go_wp2_with (refine wpList_store_row rfl 24 _ _ rfl w.heap.size #[.int .i64 2, .int .u64 a0, .int .i64 cm, .int .u64 0, .int .u64 a2] rfl rfl 24 #[.int .i64 0, .int .u64 0, .int .i64 0, .int .u64 0, .int .u64 0] (HZ.out w6 HB6.out) infoA rfl (by simp [Value.oneCell']) ?_)
          exact ⟨rfl, _, ret_a rfl (setRow_heap _ _ _ _ _ _ (HZ.out w6 HB6.out)) rfl rfl, by rw [HE.out]; rfl, below_setRow (HBT.out w6 HB6.out) (Nat.le_refl _) _⟩
        · have d1 : ¬ (TT.toList == s.toList) = true := fun e => hts (by rw [toList_eq_iff] at e; exact of_decide_eq_true e)
          have HF := Lib.hid (show okM s (t0 :: []) 2 = false from by rw [HOK.out, decide_eq_false hts])
          clear hts
          go_wp2_with fail
          go_roundw
          case rel => exact ⟨3, by omega, by go_num, fun j hj => by
            by_cases e : j = 2
            · subst e; exact HF.out
            · exact HNO.out j (by omega), HB6.out⟩
          case measure => first | omega | (simp [intOf]; done) | (simp [intOf]; omega)
    · have hix := idx3 D0 D1 D2 D3 D4 D5 D6
      have HKW := Lib.hid (show kw 3 = D3.data.toList from by rw [hD3.out, ba_data])
      by_cases hd : D3 = t0
      rotate_left
      · have d0 : ¬ D3.toList = t0.toList := fun e => hd (ba_ext (by rw [← ByteArray.toList_eq, ← ByteArray.toList_eq]; exact e))
        have HF := Lib.hid (show okM s (t0 :: []) 3 = false from by
          unfold okM
          rw [decide_eq_false (show ¬ kw 3 = w0 (t0 :: []) from fun e => hd (ba_ext (by rw [← HKW.out, e]; rfl)))]
          rfl)
        clear hd
        go_wp2_with fail
        go_roundw
        case rel => exact ⟨4, by omega, by go_num, fun j hj => by
          by_cases e : j = 3
          · subst e; exact HF.out
          · exact HNO.out j (by omega), HB.out⟩
        case measure => first | omega | (simp [intOf]; done) | (simp [intOf]; omega)
      have d0 : D3.toList = t0.toList := by rw [hd]
      have HW0 := Lib.hid (show decide (kw 3 = w0 (t0 :: [])) = true from decide_eq_true (by rw [HKW.out, hd]; rfl))
      clear hd
      cases is with
      | false =>
        have HF := Lib.hid (show okM s (t0 :: []) 3 = false from by unfold okM; rw [HIS.out, Bool.and_false]; rfl)
        go_wp2_with fail
        go_roundw
        case rel => exact ⟨4, by omega, by go_num, fun j hj => by
          by_cases e : j = 3
          · subst e; exact HF.out
          · exact HNO.out j (by omega), HB.out⟩
        case measure => first | omega | (simp [intOf]; done) | (simp [intOf]; omega)
      | true =>
        obtain ⟨e0, e1, e2, e3⟩ := HAV.out rfl
        obtain ⟨cm, hcm⟩ : ∃ x, x = cellM a1 := ⟨_, rfl⟩
        have HCL := Lib.hid (fun (W : World) => show Calls Tryd.prog 42 #[.int .u64 a1] W fun e w' => e = .returned (.int .i64 cm) ∧ w' = W from by rw [hcm]; exact cell_any W a1 (by rw [e1]; exact (nAt_rng _ 1).1) (by rw [e1]; exact (nAt_rng _ 1).2))
        have HX := Lib.hid (show build cellM (nAt (t0 :: [])) 3 = ⟨3, a0, cm, a2, a3⟩ from by rw [hcm, e0, e1, e2, e3]; rfl)
        have HTK := Lib.hid (fun (W : World) (hW : Below w3.heap.size w3 W) => HTX.out W hW 3)
        rw [HX.out] at HTK
        unfold encA cellsA at HTK
        dsimp only at HTK
        obtain ⟨TT, hTT⟩ : ∃ x, x = ba (textA ⟨3, a0, cm, a2, a3⟩) := ⟨_, rfl⟩
        rw [← hTT] at HTK
        have HOK := Lib.hid (show okM s (t0 :: []) 3 = decide (TT = s) from by
          unfold okM
          rw [HW0.out, HIS.out, HX.out, hTT, Bool.true_and, Bool.true_and, Bool.eq_iff_iff, decide_eq_true_eq, decide_eq_true_eq]
          exact ⟨fun h => ba_ext (by rw [ba_data]; exact h), fun h => by rw [← h, ba_data]⟩)
        clear hTT hcm e0 e1 e2 e3
        go_wp2_with fail
        have HBA := Lib.hid (show Below w3.heap.size w3 (wr.alloc (.cells #[.int .i64 3, .int .u64 0, .int .i64 0, .int .u64 0, .int .u64 0] 24)) from HB.out.alloc HB.out.size _)
        have hT0 : A4 ga a0 a1 a2 a3 (wr.alloc (.cells #[.int .i64 3, .int .u64 0, .int .i64 0, .int .u64 0, .int .u64 0] 24)).drew := HA.out _ HBA.out.drew
        refine till_reg2 (A4 ga a0 a1 a2 a3) (fun _ => True) 16 (by kernel_rfl) ?_
        refine Rr.take_T 0 (v := ?v30) rfl (by kernel_rfl) (by kernel_rfl) (by kernel_rfl) (by kernel_rfl) (fun _ _ _ h => h) hT0 (fun _ => trivial) (Or.inl ⟨by rfl, ?y30⟩) ?z30
        case y30 =>
          intro wz hz
          go_simp
          try with_reducible rfl
        case z30 =>
        try simp only [Act.put, List.setIfInBounds_toArray, List.set_cons_zero, List.set_cons_succ]
        refine Rr.take_T 1 (v := ?v31) rfl (by kernel_rfl) (by kernel_rfl) (by kernel_rfl) (by kernel_rfl) (fun _ _ _ h => h) hT0 (fun _ => trivial) (Or.inl ⟨by rfl, ?y31⟩) ?z31
        case y31 =>
          intro wz hz
          have hc : wz.cell? ⟨ga, 0, none⟩ = some (.int .u64 a0) := hz 0 _ rfl
          go_simp
          try with_reducible rfl
        case z31 =>
        try simp only [Act.put, List.setIfInBounds_toArray, List.set_cons_zero, List.set_cons_succ]
        refine Rr.take_T 2 (v := ?v32) rfl (by kernel_rfl) (by kernel_rfl) (by kernel_rfl) (by kernel_rfl) (fun _ _ _ h => h) hT0 (fun _ => trivial) (Or.inl ⟨by rfl, ?y32⟩) ?z32
        case y32 =>
          intro wz hz
          go_simp
          try with_reducible rfl
        case z32 =>
        try simp only [Act.put, List.setIfInBounds_toArray, List.set_cons_zero, List.set_cons_succ]
        refine Rr.take_T 3 (v := ?v33) rfl (by kernel_rfl) (by kernel_rfl) (by kernel_rfl) (by kernel_rfl) (fun _ _ _ h => h) hT0 (fun _ => trivial) (Or.inl ⟨by rfl, ?y33⟩) ?z33
        case y33 =>
          intro wz hz
          have hc : wz.cell? ⟨ga, 1, none⟩ = some (.int .u64 a1) := hz 1 _ rfl
          go_simp
          try with_reducible rfl
        case z33 =>
        try simp only [Act.put, List.setIfInBounds_toArray, List.set_cons_zero, List.set_cons_succ]
        refine Rr.take_T 5 (v := ?v35) rfl (by kernel_rfl) (by kernel_rfl) (by kernel_rfl) (by kernel_rfl) (fun _ _ _ h => h) hT0 (fun _ => trivial) (Or.inl ⟨by rfl, ?y35⟩) ?z35
        case y35 =>
          intro wz hz
          go_simp
          try with_reducible rfl
        case z35 =>
        try simp only [Act.put, List.setIfInBounds_toArray, List.set_cons_zero, List.set_cons_succ]
        refine Rr.take_T 6 (v := ?v36) rfl (by kernel_rfl) (by kernel_rfl) (by kernel_rfl) (by kernel_rfl) (fun _ _ _ h => h) hT0 (fun _ => trivial) (Or.inl ⟨by rfl, ?y36⟩) ?z36
        case y36 =>
          intro wz hz
          have hc : wz.cell? ⟨ga, 2, none⟩ = some (.int .u64 a2) := hz 2 _ rfl
          go_simp
          try with_reducible rfl
        case z36 =>
        try simp only [Act.put, List.setIfInBounds_toArray, List.set_cons_zero, List.set_cons_succ]
        refine Rr.take_T 7 (v := ?v37) rfl (by kernel_rfl) (by kernel_rfl) (by kernel_rfl) (by kernel_rfl) (fun _ _ _ h => h) hT0 (fun _ => trivial) (Or.inl ⟨by rfl, ?y37⟩) ?z37
        case y37 =>
          intro wz hz
          go_simp
          try with_reducible rfl
        case z37 =>
        try simp only [Act.put, List.setIfInBounds_toArray, List.set_cons_zero, List.set_cons_succ]
        refine Rr.take_T 8 (v := ?v38) rfl (by kernel_rfl) (by kernel_rfl) (by kernel_rfl) (by kernel_rfl) (fun _ _ _ h => h) hT0 (fun _ => trivial) (Or.inl ⟨by rfl, ?y38⟩) ?z38
        case y38 =>
          intro wz hz
          have hc : wz.cell? ⟨ga, 3, none⟩ = some (.int .u64 a3) := hz 3 _ rfl
          go_simp
          try with_reducible rfl
        case z38 =>
        try simp only [Act.put, List.setIfInBounds_toArray, List.set_cons_zero, List.set_cons_succ]
        refine Rr.take_T 9 (v := ?v39) rfl (by kernel_rfl) (by kernel_rfl) (by kernel_rfl) (by kernel_rfl) (fun _ _ _ h => h) hT0 (fun _ => trivial) (Or.inl ⟨by rfl, ?y39⟩) ?z39
        case y39 =>
          intro wz hz
          go_simp
          try with_reducible rfl
        case z39 =>
        try simp only [Act.put, List.setIfInBounds_toArray, List.set_cons_zero, List.set_cons_succ]
        refine Rr.till_all [4] (by kernel_rfl) (by simp) (List.forall_mem_cons.2 ⟨fun K hK => ?_, fun i hi => by cases hi⟩)
        refine Rr.op_at _ rfl ?_
        go_simp
        refine (HCL.out _).mono ?_
        rintro e w5 ⟨rfl, rfl⟩
        refine hK _ _ hT0 (fun _ => trivial) ?_
        clear hK K
        try simp only [Act.put, List.setIfInBounds_toArray, List.set_cons_zero, List.set_cons_succ]
        refine Rr.till_all [10] (by kernel_rfl) (by simp) (List.forall_mem_cons.2 ⟨fun K hK => ?_, fun i hi => by cases hi⟩)
        refine Rr.op_at _ rfl ?_
        go_simp
        refine hK _ _ (HA.out _ ((HB.out.alloc HB.out.size _).drew)) (fun _ => trivial) ?_
        clear hK K
        try simp only [Act.put, List.setIfInBounds_toArray, List.set_cons_zero, List.set_cons_succ]
        refine Rr.take_T 11 (v := ?v311) rfl (by kernel_rfl) (by kernel_rfl) (by kernel_rfl) (by kernel_rfl) (fun _ _ _ h => h) (HA.out _ ((HB.out.alloc HB.out.size _).drew)) (fun _ => trivial) (Or.inl ⟨by rfl, ?y311⟩) ?z311
        case y311 =>
          intro wz hz
          go_simp
          try with_reducible rfl
        case z311 =>
        try simp only [Act.put, List.setIfInBounds_toArray, List.set_cons_zero, List.set_cons_succ]
        refine Rr.till_all [12] (by kernel_rfl) (by simp) (List.forall_mem_cons.2 ⟨fun K hK => ?_, fun i hi => by cases hi⟩)
        refine Rr.op_at _ rfl ?_
        go_simp
        refine hK _ _ (HA.out _ ((HB.out.alloc HB.out.size _).drew)) (fun _ => trivial) ?_
        clear hK K
        try simp only [Act.put, List.setIfInBounds_toArray, List.set_cons_zero, List.set_cons_succ]
        refine Rr.take_T 13 (v := ?v313) rfl (by kernel_rfl) (by kernel_rfl) (by kernel_rfl) (by kernel_rfl) (fun _ _ _ h => h) (HA.out _ ((HB.out.alloc HB.out.size _).drew)) (fun _ => trivial) (Or.inl ⟨by rfl, ?y313⟩) ?z313
        case y313 =>
          intro wz hz
          go_simp
          try with_reducible rfl
        case z313 =>
        try simp only [Act.put, List.setIfInBounds_toArray, List.set_cons_zero, List.set_cons_succ]
        refine Rr.till_all [14] (by kernel_rfl) (by simp) (List.forall_mem_cons.2 ⟨fun K hK => ?_, fun i hi => by cases hi⟩)
        refine Rr.op_at _ rfl ?_
        go_simp
        refine hK _ _ (HA.out _ ((HB.out.alloc HB.out.size _).drew)) (fun _ => trivial) ?_
        clear hK K
        try simp only [Act.put, List.setIfInBounds_toArray, List.set_cons_zero, List.set_cons_succ]
        refine Rr.take_T 15 (v := ?v315) rfl (by kernel_rfl) (by kernel_rfl) (by kernel_rfl) (by kernel_rfl) (fun _ _ _ h => h) (HA.out _ ((HB.out.alloc HB.out.size _).drew)) (fun _ => trivial) (Or.inl ⟨by rfl, ?y315⟩) ?z315
        case y315 =>
          intro wz hz
          go_simp
          try with_reducible rfl
        case z315 =>
        try simp only [Act.put, List.setIfInBounds_toArray, List.set_cons_zero, List.set_cons_succ]
        refine Rr.till_all [16] (by kernel_rfl) (by simp) (List.forall_mem_cons.2 ⟨fun K hK => ?_, fun i hi => by cases hi⟩)
        refine Rr.op_at _ rfl ?_
        go_simp
        refine hK _ _ (HA.out _ ((HB.out.alloc HB.out.size _).drew)) (fun _ => trivial) ?_
        clear hK K
        try simp only [Act.put, List.setIfInBounds_toArray, List.set_cons_zero, List.set_cons_succ]
        refine Rr.till_done (by kernel_rfl) ?_ _
        clear hT0
        go_wp2_with fail
        have HBX := Lib.hid (show Below w3.heap.size w3 ((wr.alloc (.cells #[.int .i64 3, .int .u64 a0, .int .i64 cm, .int .u64 a2, .int .u64 a3] 24)).drew) from (HB.out.alloc HB.out.size _).drew)
        refine (HTK.out _ HBX.out).mono ?_
        rintro e w6 ⟨rfl, hb6⟩
        have HB6 := Lib.hid (HBX.out.trans (hb6.mono HBX.out.size))
        have HX6 := Lib.hid (show w6.heap[wr.heap.size]? = some (.cells #[.int .i64 3, .int .u64 a0, .int .i64 cm, .int .u64 a2, .int .u64 a3] 24 (0, 0)) from (hb6.block wr.heap.size (by simp)).trans (heap_alloc_new wr _))
        clear hb6
        have x0 : w6.cell? ⟨wr.heap.size, 0, none⟩ = some (.int .i64 3) := cell_of1' HX6.out 0
        have x1 : w6.cell? ⟨wr.heap.size, 1, none⟩ = some (.int .u64 a0) := cell_of1' HX6.out 1
        have x2 : w6.cell? ⟨wr.heap.size, 2, none⟩ = some (.int .i64 cm) := cell_of1' HX6.out 2
        have x3 : w6.cell? ⟨wr.heap.size, 3, none⟩ = some (.int .u64 a2) := cell_of1' HX6.out 3
        have x4 : w6.cell? ⟨wr.heap.size, 4, none⟩ = some (.int .u64 a3) := cell_of1' HX6.out 4
        by_cases hts : TT = s
        · have d1 : TT.toList = s.toList := by rw [hts]
          have HE := Lib.hid (readM_at (k := 3) (by decide) HNO.out (by rw [HOK.out, decide_eq_true hts]))
          rw [HX.out] at HE
          clear hts
          go_wp2_with (refine wpList_store_row rfl 24 _ _ rfl w.heap.size #[.int .i64 3, .int .u64 a0, .int .i64 cm, .int .u64 a2, .int .u64 a3] rfl rfl 24 #[.int .i64 0, .int .u64 0, .int .i64 0, .int .u64 0, .int .u64 0] (HZ.out w6 HB6.out) infoA rfl (by simp [Value.oneCell']) ?_)
          exact ⟨rfl, _, ret_a rfl (setRow_heap _ _ _ _ _ _ (HZ.out w6 HB6.out)) rfl rfl, by rw [HE.out]; rfl, below_setRow (HBT.out w6 HB6.out) (Nat.le_refl _) _⟩
        · have d1 : ¬ (TT.toList == s.toList) = true := fun e => hts (by rw [toList_eq_iff] at e; exact of_decide_eq_true e)
          have HF := Lib.hid (show okM s (t0 :: []) 3 = false from by rw [HOK.out, decide_eq_false hts])
          clear hts
          go_wp2_with fail
          go_roundw
          case rel => exact ⟨4, by omega, by go_num, fun j hj => by
            by_cases e : j = 3
            · subst e; exact HF.out
            · exact HNO.out j (by omega), HB6.out⟩
          case measure => first | omega | (simp [intOf]; done) | (simp [intOf]; omega)
    · have hix := idx4 D0 D1 D2 D3 D4 D5 D6
      have HKW := Lib.hid (show kw 4 = D4.data.toList from by rw [hD4.out, ba_data])
      by_cases hd : D4 = t0
      rotate_left
      · have d0 : ¬ D4.toList = t0.toList := fun e => hd (ba_ext (by rw [← ByteArray.toList_eq, ← ByteArray.toList_eq]; exact e))
        have HF := Lib.hid (show okM s (t0 :: []) 4 = false from by
          unfold okM
          rw [decide_eq_false (show ¬ kw 4 = w0 (t0 :: []) from fun e => hd (ba_ext (by rw [← HKW.out, e]; rfl)))]
          rfl)
        clear hd
        go_wp2_with fail
        go_roundw
        case rel => exact ⟨5, by omega, by go_num, fun j hj => by
          by_cases e : j = 4
          · subst e; exact HF.out
          · exact HNO.out j (by omega), HB.out⟩
        case measure => first | omega | (simp [intOf]; done) | (simp [intOf]; omega)
      have d0 : D4.toList = t0.toList := by rw [hd]
      have HW0 := Lib.hid (show decide (kw 4 = w0 (t0 :: [])) = true from decide_eq_true (by rw [HKW.out, hd]; rfl))
      clear hd
      cases is with
      | false =>
        have HF := Lib.hid (show okM s (t0 :: []) 4 = false from by unfold okM; rw [HIS.out, Bool.and_false]; rfl)
        go_wp2_with fail
        go_roundw
        case rel => exact ⟨5, by omega, by go_num, fun j hj => by
          by_cases e : j = 4
          · subst e; exact HF.out
          · exact HNO.out j (by omega), HB.out⟩
        case measure => first | omega | (simp [intOf]; done) | (simp [intOf]; omega)
      | true =>
        obtain ⟨e0, e1, e2, e3⟩ := HAV.out rfl
        obtain ⟨cm, hcm⟩ : ∃ x, x = cellM a1 := ⟨_, rfl⟩
        have HCL := Lib.hid (fun (W : World) => show Calls Tryd.prog 42 #[.int .u64 a1] W fun e w' => e = .returned (.int .i64 cm) ∧ w' = W from by rw [hcm]; exact cell_any W a1 (by rw [e1]; exact (nAt_rng _ 1).1) (by rw [e1]; exact (nAt_rng _ 1).2))
        have HX := Lib.hid (show build cellM (nAt (t0 :: [])) 4 = ⟨4, a0, cm, 0, a2⟩ from by rw [hcm, e0, e1, e2]; rfl)
        have HTK := Lib.hid (fun (W : World) (hW : Below w3.heap.size w3 W) => HTX.out W hW 4)
        rw [HX.out] at HTK
        unfold encA cellsA at HTK
        dsimp only at HTK
        obtain ⟨TT, hTT⟩ : ∃ x, x = ba (textA ⟨4, a0, cm, 0, a2⟩) := ⟨_, rfl⟩
        rw [← hTT] at HTK
        have HOK := Lib.hid (show okM s (t0 :: []) 4 = decide (TT = s) from by
          unfold okM
          rw [HW0.out, HIS.out, HX.out, hTT, Bool.true_and, Bool.true_and, Bool.eq_iff_iff, decide_eq_true_eq, decide_eq_true_eq]
          exact ⟨fun h => ba_ext (by rw [ba_data]; exact h), fun h => by rw [← h, ba_data]⟩)
        clear hTT hcm e0 e1 e2 e3
        go_wp2_with fail
        have HBA := Lib.hid (show Below w3.heap.size w3 (wr.alloc (.cells #[.int .i64 4, .int .u64 0, .int .i64 0, .int .u64 0, .int .u64 0] 24)) from HB.out.alloc HB.out.size _)
        have hT0 : A4 ga a0 a1 a2 a3 (wr.alloc (.cells #[.int .i64 4, .int .u64 0, .int .i64 0, .int .u64 0, .int .u64 0] 24)).drew := HA.out _ HBA.out.drew
        refine till_reg2 (A4 ga a0 a1 a2 a3) (fun _ => True) 12 (by kernel_rfl) ?_
        refine Rr.take_T 0 (v := ?v40) rfl (by kernel_rfl) (by kernel_rfl) (by kernel_rfl) (by kernel_rfl) (fun _ _ _ h => h) hT0 (fun _ => trivial) (Or.inl ⟨by rfl, ?y40⟩) ?z40
        case y40 =>
          intro wz hz
          go_simp
          try with_reducible rfl
        case z40 =>
        try simp only [Act.put, List.setIfInBounds_toArray, List.set_cons_zero, List.set_cons_succ]
        refine Rr.take_T 1 (v := ?v41) rfl (by kernel_rfl) (by kernel_rfl) (by kernel_rfl) (by kernel_rfl) (fun _ _ _ h => h) hT0 (fun _ => trivial) (Or.inl ⟨by rfl, ?y41⟩) ?z41
        case y41 =>
          intro wz hz
          have hc : wz.cell? ⟨ga, 0, none⟩ = some (.int .u64 a0) := hz 0 _ rfl
          go_simp
          try with_reducible rfl
        case z41 =>
        try simp only [Act.put, List.setIfInBounds_toArray, List.set_cons_zero, List.set_cons_succ]
        refine Rr.take_T 2 (v := ?v42) rfl (by kernel_rfl) (by kernel_rfl) (by kernel_rfl) (by kernel_rfl) (fun _ _ _ h => h) hT0 (fun _ => trivial) (Or.inl ⟨by rfl, ?y42⟩) ?z42
        case y42 =>
          intro wz hz
          go_simp
          try with_reducible rfl
        case z42 =>
        try simp only [Act.put, List.setIfInBounds_toArray, List.set_cons_zero, List.set_cons_succ]
        refine Rr.take_T 3 (v := ?v43) rfl (by kernel_rfl) (by kernel_rfl) (by kernel_rfl) (by kernel_rfl) (fun _ _ _ h => h) hT0 (fun _ => trivial) (Or.inl ⟨by rfl, ?y43⟩) ?z43
        case y43 =>
          intro wz hz
          have hc : wz.cell? ⟨ga, 1, none⟩ = some (.int .u64 a1) := hz 1 _ rfl
          go_simp
          try with_reducible rfl
        case z43 =>
        try simp only [Act.put, List.setIfInBounds_toArray, List.set_cons_zero, List.set_cons_succ]
        refine Rr.take_T 5 (v := ?v45) rfl (by kernel_rfl) (by kernel_rfl) (by kernel_rfl) (by kernel_rfl) (fun _ _ _ h => h) hT0 (fun _ => trivial) (Or.inl ⟨by rfl, ?y45⟩) ?z45
        case y45 =>
          intro wz hz
          go_simp
          try with_reducible rfl
        case z45 =>
        try simp only [Act.put, List.setIfInBounds_toArray, List.set_cons_zero, List.set_cons_succ]
        refine Rr.take_T 6 (v := ?v46) rfl (by kernel_rfl) (by kernel_rfl) (by kernel_rfl) (by kernel_rfl) (fun _ _ _ h => h) hT0 (fun _ => trivial) (Or.inl ⟨by rfl, ?y46⟩) ?z46
        case y46 =>
          intro wz hz
          have hc : wz.cell? ⟨ga, 2, none⟩ = some (.int .u64 a2) := hz 2 _ rfl
          go_simp
          try with_reducible rfl
        case z46 =>
        try simp only [Act.put, List.setIfInBounds_toArray, List.set_cons_zero, List.set_cons_succ]
        refine Rr.take_T 7 (v := ?v47) rfl (by kernel_rfl) (by kernel_rfl) (by kernel_rfl) (by kernel_rfl) (fun _ _ _ h => h) hT0 (fun _ => trivial) (Or.inl ⟨by rfl, ?y47⟩) ?z47
        case y47 =>
          intro wz hz
          go_simp
          try with_reducible rfl
        case z47 =>
        try simp only [Act.put, List.setIfInBounds_toArray, List.set_cons_zero, List.set_cons_succ]
        refine Rr.till_all [4] (by kernel_rfl) (by simp) (List.forall_mem_cons.2 ⟨fun K hK => ?_, fun i hi => by cases hi⟩)
        refine Rr.op_at _ rfl ?_
        go_simp
        refine (HCL.out _).mono ?_
        rintro e w5 ⟨rfl, rfl⟩
        refine hK _ _ hT0 (fun _ => trivial) ?_
        clear hK K
        try simp only [Act.put, List.setIfInBounds_toArray, List.set_cons_zero, List.set_cons_succ]
        refine Rr.till_all [8] (by kernel_rfl) (by simp) (List.forall_mem_cons.2 ⟨fun K hK => ?_, fun i hi => by cases hi⟩)
        refine Rr.op_at _ rfl ?_
        go_simp
        refine hK _ _ (HA.out _ ((HB.out.alloc HB.out.size _).drew)) (fun _ => trivial) ?_
        clear hK K
        try simp only [Act.put, List.setIfInBounds_toArray, List.set_cons_zero, List.set_cons_succ]
        refine Rr.take_T 9 (v := ?v49) rfl (by kernel_rfl) (by kernel_rfl) (by kernel_rfl) (by kernel_rfl) (fun _ _ _ h => h) (HA.out _ ((HB.out.alloc HB.out.size _).drew)) (fun _ => trivial) (Or.inl ⟨by rfl, ?y49⟩) ?z49
        case y49 =>
          intro wz hz
          go_simp
          try with_reducible rfl
        case z49 =>
        try simp only [Act.put, List.setIfInBounds_toArray, List.set_cons_zero, List.set_cons_succ]
        refine Rr.till_all [10] (by kernel_rfl) (by simp) (List.forall_mem_cons.2 ⟨fun K hK => ?_, fun i hi => by cases hi⟩)
        refine Rr.op_at _ rfl ?_
        go_simp
        refine hK _ _ (HA.out _ ((HB.out.alloc HB.out.size _).drew)) (fun _ => trivial) ?_
        clear hK K
        try simp only [Act.put, List.setIfInBounds_toArray, List.set_cons_zero, List.set_cons_succ]
        refine Rr.take_T 11 (v := ?v411) rfl (by kernel_rfl) (by kernel_rfl) (by kernel_rfl) (by kernel_rfl) (fun _ _ _ h => h) (HA.out _ ((HB.out.alloc HB.out.size _).drew)) (fun _ => trivial) (Or.inl ⟨by rfl, ?y411⟩) ?z411
        case y411 =>
          intro wz hz
          go_simp
          try with_reducible rfl
        case z411 =>
        try simp only [Act.put, List.setIfInBounds_toArray, List.set_cons_zero, List.set_cons_succ]
        refine Rr.till_all [12] (by kernel_rfl) (by simp) (List.forall_mem_cons.2 ⟨fun K hK => ?_, fun i hi => by cases hi⟩)
        refine Rr.op_at _ rfl ?_
        go_simp
        refine hK _ _ (HA.out _ ((HB.out.alloc HB.out.size _).drew)) (fun _ => trivial) ?_
        clear hK K
        try simp only [Act.put, List.setIfInBounds_toArray, List.set_cons_zero, List.set_cons_succ]
        refine Rr.till_done (by kernel_rfl) ?_ _
        clear hT0
        go_wp2_with fail
        have HBX := Lib.hid (show Below w3.heap.size w3 ((wr.alloc (.cells #[.int .i64 4, .int .u64 a0, .int .i64 cm, .int .u64 0, .int .u64 a2] 24)).drew) from (HB.out.alloc HB.out.size _).drew)
        refine (HTK.out _ HBX.out).mono ?_
        rintro e w6 ⟨rfl, hb6⟩
        have HB6 := Lib.hid (HBX.out.trans (hb6.mono HBX.out.size))
        have HX6 := Lib.hid (show w6.heap[wr.heap.size]? = some (.cells #[.int .i64 4, .int .u64 a0, .int .i64 cm, .int .u64 0, .int .u64 a2] 24 (0, 0)) from (hb6.block wr.heap.size (by simp)).trans (heap_alloc_new wr _))
        clear hb6
        have x0 : w6.cell? ⟨wr.heap.size, 0, none⟩ = some (.int .i64 4) := cell_of1' HX6.out 0
        have x1 : w6.cell? ⟨wr.heap.size, 1, none⟩ = some (.int .u64 a0) := cell_of1' HX6.out 1
        have x2 : w6.cell? ⟨wr.heap.size, 2, none⟩ = some (.int .i64 cm) := cell_of1' HX6.out 2
        have x3 : w6.cell? ⟨wr.heap.size, 3, none⟩ = some (.int .u64 0) := cell_of1' HX6.out 3
        have x4 : w6.cell? ⟨wr.heap.size, 4, none⟩ = some (.int .u64 a2) := cell_of1' HX6.out 4
        by_cases hts : TT = s
        · have d1 : TT.toList = s.toList := by rw [hts]
          have HE := Lib.hid (readM_at (k := 4) (by decide) HNO.out (by rw [HOK.out, decide_eq_true hts]))
          rw [HX.out] at HE
          clear hts
          go_wp2_with (refine wpList_store_row rfl 24 _ _ rfl w.heap.size #[.int .i64 4, .int .u64 a0, .int .i64 cm, .int .u64 0, .int .u64 a2] rfl rfl 24 #[.int .i64 0, .int .u64 0, .int .i64 0, .int .u64 0, .int .u64 0] (HZ.out w6 HB6.out) infoA rfl (by simp [Value.oneCell']) ?_)
          exact ⟨rfl, _, ret_a rfl (setRow_heap _ _ _ _ _ _ (HZ.out w6 HB6.out)) rfl rfl, by rw [HE.out]; rfl, below_setRow (HBT.out w6 HB6.out) (Nat.le_refl _) _⟩
        · have d1 : ¬ (TT.toList == s.toList) = true := fun e => hts (by rw [toList_eq_iff] at e; exact of_decide_eq_true e)
          have HF := Lib.hid (show okM s (t0 :: []) 4 = false from by rw [HOK.out, decide_eq_false hts])
          clear hts
          go_wp2_with fail
          go_roundw
          case rel => exact ⟨5, by omega, by go_num, fun j hj => by
            by_cases e : j = 4
            · subst e; exact HF.out
            · exact HNO.out j (by omega), HB6.out⟩
          case measure => first | omega | (simp [intOf]; done) | (simp [intOf]; omega)
    · have hix := idx5 D0 D1 D2 D3 D4 D5 D6
      have HKW := Lib.hid (show kw 5 = D5.data.toList from by rw [hD5.out, ba_data])
      by_cases hd : D5 = t0
      rotate_left
      · have d0 : ¬ D5.toList = t0.toList := fun e => hd (ba_ext (by rw [← ByteArray.toList_eq, ← ByteArray.toList_eq]; exact e))
        have HF := Lib.hid (show okM s (t0 :: []) 5 = false from by
          unfold okM
          rw [decide_eq_false (show ¬ kw 5 = w0 (t0 :: []) from fun e => hd (ba_ext (by rw [← HKW.out, e]; rfl)))]
          rfl)
        clear hd
        go_wp2_with fail
        go_roundw
        case rel => exact ⟨6, by omega, by go_num, fun j hj => by
          by_cases e : j = 5
          · subst e; exact HF.out
          · exact HNO.out j (by omega), HB.out⟩
        case measure => first | omega | (simp [intOf]; done) | (simp [intOf]; omega)
      have d0 : D5.toList = t0.toList := by rw [hd]
      have HW0 := Lib.hid (show decide (kw 5 = w0 (t0 :: [])) = true from decide_eq_true (by rw [HKW.out, hd]; rfl))
      clear hd
      cases is with
      | false =>
        have HF := Lib.hid (show okM s (t0 :: []) 5 = false from by unfold okM; rw [HIS.out, Bool.and_false]; rfl)
        go_wp2_with fail
        go_roundw
        case rel => exact ⟨6, by omega, by go_num, fun j hj => by
          by_cases e : j = 5
          · subst e; exact HF.out
          · exact HNO.out j (by omega), HB.out⟩
        case measure => first | omega | (simp [intOf]; done) | (simp [intOf]; omega)
      | true =>
        obtain ⟨e0, e1, e2, e3⟩ := HAV.out rfl
        obtain ⟨cm, hcm⟩ : ∃ x, x = cellM a0 := ⟨_, rfl⟩
        have HCL := Lib.hid (fun (W : World) => show Calls Tryd.prog 42 #[.int .u64 a0] W fun e w' => e = .returned (.int .i64 cm) ∧ w' = W from by rw [hcm]; exact cell_any W a0 (by rw [e0]; exact (nAt_rng _ 0).1) (by rw [e0]; exact (nAt_rng _ 0).2))
        have HX := Lib.hid (show build cellM (nAt (t0 :: [])) 5 = ⟨5, 0, cm, 0, 0⟩ from by rw [hcm, e0]; rfl)
        have HTK := Lib.hid (fun (W : World) (hW : Below w3.heap.size w3 W) => HTX.out W hW 5)
        rw [HX.out] at HTK
        unfold encA cellsA at HTK
        dsimp only at HTK
        obtain ⟨TT, hTT⟩ : ∃ x, x = ba (textA ⟨5, 0, cm, 0, 0⟩) := ⟨_, rfl⟩
        rw [← hTT] at HTK
        have HOK := Lib.hid (show okM s (t0 :: []) 5 = decide (TT = s) from by
          unfold okM
          rw [HW0.out, HIS.out, HX.out, hTT, Bool.true_and, Bool.true_and, Bool.eq_iff_iff, decide_eq_true_eq, decide_eq_true_eq]
          exact ⟨fun h => ba_ext (by rw [ba_data]; exact h), fun h => by rw [← h, ba_data]⟩)
        clear hTT hcm e0 e1 e2 e3
        have ax0 : wr.cell? ⟨ga, 0, none⟩ = some (.int .u64 a0) := HA.out wr HB.out 0 _ rfl
        have hga2 : ga < wr.heap.size := by omega
        go_wp2_with fail
        refine (HCL.out _).mono ?_
        rintro e w5 ⟨rfl, rfl⟩
        go_wp2_with fail
        clear ax0
        have HBX := Lib.hid (show Below w3.heap.size w3 (wr.alloc (.cells #[.int .i64 5, .int .u64 0, .int .i64 cm, .int .u64 0, .int .u64 0] 24)) from HB.out.alloc HB.out.size _)
        refine (HTK.out _ HBX.out).mono ?_
        rintro e w6 ⟨rfl, hb6⟩
        have HB6 := Lib.hid (HBX.out.trans (hb6.mono HBX.out.size))
        have HX6 := Lib.hid (show w6.heap[wr.heap.size]? = some (.cells #[.int .i64 5, .int .u64 0, .int .i64 cm, .int .u64 0, .int .u64 0] 24 (0, 0)) from (hb6.block wr.heap.size (by simp)).trans (heap_alloc_new wr _))
        clear hb6
        have x0 : w6.cell? ⟨wr.heap.size, 0, none⟩ = some (.int .i64 5) := cell_of1' HX6.out 0
        have x1 : w6.cell? ⟨wr.heap.size, 1, none⟩ = some (.int .u64 0) := cell_of1' HX6.out 1
        have x2 : w6.cell? ⟨wr.heap.size, 2, none⟩ = some (.int .i64 cm) := cell_of1' HX6.out 2
        have x3 : w6.cell? ⟨wr.heap.size, 3, none⟩ = some (.int .u64 0) := cell_of1' HX6.out 3
        have x4 : w6.cell? ⟨wr.heap.size, 4, none⟩ = some (.int .u64 0) := cell_of1' HX6.out 4
        by_cases hts : TT = s
        · have d1 : TT.toList = s.toList := by rw [hts]
          have HE := Lib.hid (readM_at (k := 5) (by decide) HNO.out (by rw [HOK.out, decide_eq_true hts]))
          rw [HX.out] at HE
          clear hts
          go_wp2_with (refine wpList_store_row rfl 24 _ _ rfl w.heap.size #[.int .i64 5, .int .u64 0, .int .i64 cm, .int .u64 0, .int .u64 0] rfl rfl 24 #[.int .i64 0, .int .u64 0, .int .i64 0, .int .u64 0, .int .u64 0] (HZ.out w6 HB6.out) infoA rfl (by simp [Value.oneCell']) ?_)
          exact ⟨rfl, _, ret_a rfl (setRow_heap _ _ _ _ _ _ (HZ.out w6 HB6.out)) rfl rfl, by rw [HE.out]; rfl, below_setRow (HBT.out w6 HB6.out) (Nat.le_refl _) _⟩
        · have d1 : ¬ (TT.toList == s.toList) = true := fun e => hts (by rw [toList_eq_iff] at e; exact of_decide_eq_true e)
          have HF := Lib.hid (show okM s (t0 :: []) 5 = false from by rw [HOK.out, decide_eq_false hts])
          clear hts
          go_wp2_with fail
          go_roundw
          case rel => exact ⟨6, by omega, by go_num, fun j hj => by
            by_cases e : j = 5
            · subst e; exact HF.out
            · exact HNO.out j (by omega), HB6.out⟩
          case measure => first | omega | (simp [intOf]; done) | (simp [intOf]; omega)
    · have hix := idx6 D0 D1 D2 D3 D4 D5 D6
      have HKW := Lib.hid (show kw 6 = D6.data.toList from by rw [hD6.out, ba_data])
      by_cases hd : D6 = t0
      rotate_left
      · have d0 : ¬ D6.toList = t0.toList := fun e => hd (ba_ext (by rw [← ByteArray.toList_eq, ← ByteArray.toList_eq]; exact e))
        have HF := Lib.hid (show okM s (t0 :: []) 6 = false from by
          unfold okM
          rw [decide_eq_false (show ¬ kw 6 = w0 (t0 :: []) from fun e => hd (ba_ext (by rw [← HKW.out, e]; rfl)))]
          rfl)
        clear hd
        go_wp2_with fail
        go_roundw
        case rel => exact ⟨7, by omega, by go_num, fun j hj => by
          by_cases e : j = 6
          · subst e; exact HF.out
          · exact HNO.out j (by omega), HB.out⟩
        case measure => first | omega | (simp [intOf]; done) | (simp [intOf]; omega)
      have d0 : D6.toList = t0.toList := by rw [hd]
      have HW0 := Lib.hid (show decide (kw 6 = w0 (t0 :: [])) = true from decide_eq_true (by rw [HKW.out, hd]; rfl))
      clear hd
      cases is with
      | false =>
        have HF := Lib.hid (show okM s (t0 :: []) 6 = false from by unfold okM; rw [HIS.out, Bool.and_false]; rfl)
        go_wp2_with fail
        go_roundw
        case rel => exact ⟨7, by omega, by go_num, fun j hj => by
          by_cases e : j = 6
          · subst e; exact HF.out
          · exact HNO.out j (by omega), HB.out⟩
        case measure => first | omega | (simp [intOf]; done) | (simp [intOf]; omega)
      | true =>
        obtain ⟨e0, e1, e2, e3⟩ := HAV.out rfl
        have HX := Lib.hid (show build cellM (nAt (t0 :: [])) 6 = ⟨6, a0, 0, 0, 0⟩ from by rw [e0]; rfl)
        have HTK := Lib.hid (fun (W : World) (hW : Below w3.heap.size w3 W) => HTX.out W hW 6)
        rw [HX.out] at HTK
        unfold encA cellsA at HTK
        dsimp only at HTK
        obtain ⟨TT, hTT⟩ : ∃ x, x = ba (textA ⟨6, a0, 0, 0, 0⟩) := ⟨_, rfl⟩
        rw [← hTT] at HTK
        have HOK := Lib.hid (show okM s (t0 :: []) 6 = decide (TT = s) from by
          unfold okM
          rw [HW0.out, HIS.out, HX.out, hTT, Bool.true_and, Bool.true_and, Bool.eq_iff_iff, decide_eq_true_eq, decide_eq_true_eq]
          exact ⟨fun h => ba_ext (by rw [ba_data]; exact h), fun h => by rw [← h, ba_data]⟩)
        clear hTT e0 e1 e2 e3
        have ax0 : wr.cell? ⟨ga, 0, none⟩ = some (.int .u64 a0) := HA.out wr HB.out 0 _ rfl
        have hga2 : ga < wr.heap.size := by omega
        go_wp2_with fail
        clear ax0
        have HBX := Lib.hid (show Below w3.heap.size w3 (wr.alloc (.cells #[.int .i64 6, .int .u64 a0, .int .i64 0, .int .u64 0, .int .u64 0] 24)) from HB.out.alloc HB.out.size _)
        refine (HTK.out _ HBX.out).mono ?_
        rintro e w6 ⟨rfl, hb6⟩
        have HB6 := Lib.hid (HBX.out.trans (hb6.mono HBX.out.size))
        have HX6 := Lib.hid (show w6.heap[wr.heap.size]? = some (.cells #[.int .i64 6, .int .u64 a0, .int .i64 0, .int .u64 0, .int .u64 0] 24 (0, 0)) from (hb6.block wr.heap.size (by simp)).trans (heap_alloc_new wr _))
        clear hb6
        have x0 : w6.cell? ⟨wr.heap.size, 0, none⟩ = some (.int .i64 6) := cell_of1' HX6.out 0
        have x1 : w6.cell? ⟨wr.heap.size, 1, none⟩ = some (.int .u64 a0) := cell_of1' HX6.out 1
        have x2 : w6.cell? ⟨wr.heap.size, 2, none⟩ = some (.int .i64 0) := cell_of1' HX6.out 2
        have x3 : w6.cell? ⟨wr.heap.size, 3, none⟩ = some (.int .u64 0) := cell_of1' HX6.out 3
        have x4 : w6.cell? ⟨wr.heap.size, 4, none⟩ = some (.int .u64 0) := cell_of1' HX6.out 4
        by_cases hts : TT = s
        · have d1 : TT.toList = s.toList := by rw [hts]
          have HE := Lib.hid (readM_at (k := 6) (by decide) HNO.out (by rw [HOK.out, decide_eq_true hts]))
          rw [HX.out] at HE
          clear hts
          go_wp2_with (refine wpList_store_row rfl 24 _ _ rfl w.heap.size #[.int .i64 6, .int .u64 a0, .int .i64 0, .int .u64 0, .int .u64 0] rfl rfl 24 #[.int .i64 0, .int .u64 0, .int .i64 0, .int .u64 0, .int .u64 0] (HZ.out w6 HB6.out) infoA rfl (by simp [Value.oneCell']) ?_)
          exact ⟨rfl, _, ret_a rfl (setRow_heap _ _ _ _ _ _ (HZ.out w6 HB6.out)) rfl rfl, by rw [HE.out]; rfl, below_setRow (HBT.out w6 HB6.out) (Nat.le_refl _) _⟩
        · have d1 : ¬ (TT.toList == s.toList) = true := fun e => hts (by rw [toList_eq_iff] at e; exact of_decide_eq_true e)
          have HF := Lib.hid (show okM s (t0 :: []) 6 = false from by rw [HOK.out, decide_eq_false hts])
          clear hts
          go_wp2_with fail
          go_roundw
          case rel => exact ⟨7, by omega, by go_num, fun j hj => by
            by_cases e : j = 6
            · subst e; exact HF.out
            · exact HNO.out j (by omega), HB6.out⟩
          case measure => first | omega | (simp [intOf]; done) | (simp [intOf]; omega)
set_option maxRecDepth 100000 in
set_option maxHeartbeats 32000000 in
theorem read_cons (w : World) (s : ByteArray) (hs : s.size ≤ 1000) (hv : Av w) (t0 : ByteArray) (t1 : ByteArray) (tr : List ByteArray) (hws : Pt.parts 32 s = t0 :: (t1 :: tr)) : Calls Tryd.prog 9 #[.string s] w fun e w' => e = .returned (.tuple #[encA (readM s (Pt.parts 32 s)).1, .int .i64 (readM s (Pt.parts 32 s)).2]) ∧ Below w.heap.size w w' := by
  have HV := Lib.hid hv
  have HSP := Lib.hid (fun W hW => split_any W s (by omega) (hv.below (w' := W) hW))
  have hsml : ∀ t ∈ Pt.parts 32 s, t.size ≤ 1000 := fun t ht => by
    have h1 : t.data.toList ∈ (Pt.parts 32 s).map (·.data.toList) := List.mem_map_of_mem ht
    rw [Pt.parts_data] at h1
    have := sp_le 32 s.data.toList _ h1
    have e1 := Pt.size_list t
    have e2 := Pt.size_list s
    omega
  have hwl : (Pt.parts 32 s).length ≤ 1001 := by
    have h2 := Pt.pt_len 32 s (s.size + 1)
    rw [Pt.pt_end] at h2
    omega
  have hpos : Pt.parts 32 s ≠ [] := fun e => by
    have := Pt.parts_data 32 s
    rw [e] at this
    exact Tx.sp_ne 32 _ this.symm
  generalize Pt.parts 32 s = ws at *
  subst hws
  obtain ⟨is, his⟩ : ∃ b, all4 (t1 :: tr) = b := ⟨_, rfl⟩
  have HIS := Lib.hid (show (allW (t0 :: (t1 :: tr)) && decide ((t0 :: (t1 :: tr)).length ≤ 5)) = is from by
    rw [← his]
    unfold allW all4
    rw [List.tail_cons, List.length_cons]
    congr 1
    try (rw [Bool.eq_iff_iff]; simp))
  have hsz := hsml
  clear hv hpos hsml
  go_enter Tryd.func9, Tryd.ntmps9
  go_wp2_with fail
  refine (HSP.out _ ((Below.refl _ _).alloc (Nat.le_refl _) _)).mono ?_
  rintro e w1 ⟨rfl, hc1, hlt1, hb1⟩
  have HC1 := Lib.hid hc1
  obtain ⟨g, hg⟩ : ∃ g, g = (w.alloc (.cells #[.int .i64 0, .int .u64 0, .int .i64 0, .int .u64 0, .int .u64 0] 24)).heap.size := ⟨_, rfl⟩
  have HB1 := Lib.hid (show Below w.heap.size w w1 from ((Below.refl _ _).alloc (Nat.le_refl _) _).trans (hb1.mono (by simp)))
  have HZ1 := Lib.hid (show w1.heap[w.heap.size]? = some (.cells #[.int .i64 0, .int .u64 0, .int .i64 0, .int .u64 0, .int .u64 0] 24 (0, 0)) from (hb1.block w.heap.size (by simp)).trans (heap_alloc_new w _))
  rw [← hg] at HC1 hlt1 ⊢
  clear hg hc1 hb1
  have HNB := Lib.hid (numbers_any w1 (some ⟨g, 1, none⟩) (tr.length + 1) (t1 :: tr) (fun j t ht => ⟨g, 1, rfl, hlt1, by have := HC1.out (j + 1) t ht; rw [show 1 + j = j + 1 by omega]; exact this⟩) (fun t ht => by have := hsz t (List.mem_cons_of_mem _ ht); omega) (by first | (simp; done) | (simp only [List.length_cons] at hwl ⊢; omega)) (HV.out.below HB1.out).rng)
  rw [his] at HNB
  clear hsz
  go_wp2_with fail
  refine HNB.out.mono ?_
  rintro e w2 ⟨a0, a1, a2, a3, rfl, hav, hb2⟩
  have HAV := Lib.hid (show is = true → a0 = nAt (t0 :: (t1 :: tr)) 0 ∧ a1 = nAt (t0 :: (t1 :: tr)) 1 ∧ a2 = nAt (t0 :: (t1 :: tr)) 2 ∧ a3 = nAt (t0 :: (t1 :: tr)) 3 from fun h => by
    have := hav h
    rw [← tv_tail, ← tv_tail, ← tv_tail, ← tv_tail]
    exact this)
  have HB2 := Lib.hid (HB1.out.trans (hb2.mono HB1.out.size))
  have HC2 := Lib.hid (show w2.cell? ⟨g, 0, none⟩ = some (.string t0) from (hb2.cell (p := ⟨g, 0, none⟩) hlt1).trans (HC1.out 0 t0 rfl))
  have HZ2 := Lib.hid ((hb2.block w.heap.size (lt_of_block HZ1.out)).trans HZ1.out)
  have hg2 : g < w2.heap.size := Nat.lt_of_lt_of_le hlt1 hb2.size
  clear hav hb2 his
  obtain ⟨w3, hw3⟩ : ∃ W, W = w2.alloc (.cells #[.int .u64 a0, .int .u64 a1, .int .u64 a2, .int .u64 a3] 72) := ⟨_, rfl⟩
  obtain ⟨ga, hga⟩ : ∃ x, x = w2.heap.size := ⟨_, rfl⟩
  have hsz3 : w3.heap.size = ga + 1 := by rw [hw3, hga]; simp
  have HB3 := Lib.hid (show Below w.heap.size w w3 from by rw [hw3]; exact HB2.out.alloc HB2.out.size _)
  have HB23 := Lib.hid (show Below w2.heap.size w2 w3 from by rw [hw3]; exact (Below.refl _ _).alloc (Nat.le_refl _) _)
  have HA := Lib.hid (show ∀ W, Below w3.heap.size w3 W → A4 ga a0 a1 a2 a3 W from fun W hW j u hu => by
    have h1 : w3.heap[ga]? = some (.cells #[.int .u64 a0, .int .u64 a1, .int .u64 a2, .int .u64 a3] 72 (0, 0)) := by rw [hw3, hga]; exact heap_alloc_new w2 _
    rw [cell_of1' ((hW.block ga (by omega)).trans h1)]
    simpa using hu)
  have HC := Lib.hid (show ∀ W, Below w3.heap.size w3 W → W.cell? ⟨g, 0, none⟩ = some (.string t0) from fun W hW => (hW.cell (p := ⟨g, 0, none⟩) (by show g < w3.heap.size; omega)).trans ((HB23.out.cell (p := ⟨g, 0, none⟩) hg2).trans HC2.out))
  have HZ := Lib.hid (show ∀ W, Below w3.heap.size w3 W → W.heap[w.heap.size]? = some (.cells #[.int .i64 0, .int .u64 0, .int .i64 0, .int .u64 0, .int .u64 0] 24 (0, 0)) from fun W hW => (hW.block w.heap.size (by have := lt_of_block HZ2.out; omega)).trans ((HB23.out.block w.heap.size (lt_of_block HZ2.out)).trans HZ2.out))
  have HBT := Lib.hid (show ∀ W, Below w3.heap.size w3 W → Below w.heap.size w W from fun W hW => HB3.out.trans (hW.mono HB3.out.size))
  have HTX := Lib.hid (fun (W : World) (hW : Below w3.heap.size w3 W) (k : Nat) => text_any W (build cellM (nAt (t0 :: (t1 :: tr))) k) (build_ok (c := cellM) cellM_le).2 (build_lo (t0 :: (t1 :: tr)) k) (HV.out.below (HBT.out W hW)).wds (HV.out.below (HBT.out W hW)).pow)
  have HWD := Lib.hid (HV.out.below HB2.out).wds

  obtain ⟨D0, hD0'⟩ : ∃ x, x = ba (kw 0) := ⟨_, rfl⟩
  have hD0 := Lib.hid hD0'
  clear hD0'
  obtain ⟨D1, hD1'⟩ : ∃ x, x = ba (kw 1) := ⟨_, rfl⟩
  have hD1 := Lib.hid hD1'
  clear hD1'
  obtain ⟨D2, hD2'⟩ : ∃ x, x = ba (kw 2) := ⟨_, rfl⟩
  have hD2 := Lib.hid hD2'
  clear hD2'
  obtain ⟨D3, hD3'⟩ : ∃ x, x = ba (kw 3) := ⟨_, rfl⟩
  have hD3 := Lib.hid hD3'
  clear hD3'
  obtain ⟨D4, hD4'⟩ : ∃ x, x = ba (kw 4) := ⟨_, rfl⟩
  have hD4 := Lib.hid hD4'
  clear hD4'
  obtain ⟨D5, hD5'⟩ : ∃ x, x = ba (kw 5) := ⟨_, rfl⟩
  have hD5 := Lib.hid hD5'
  clear hD5'
  obtain ⟨D6, hD6'⟩ : ∃ x, x = ba (kw 6) := ⟨_, rfl⟩
  have hD6 := Lib.hid hD6'
  clear hD6'

  have hgw : 0 < w2.heap.size := by have := HV.out.wds.lt; have := HB2.out.size; omega
  have v0 : w2.cell? ⟨0, 0, none⟩ = some (.string D0) := by rw [hD0]; exact HWD.out.at_ 0 (by decide)
  have v1 : w2.cell? ⟨0, 1, none⟩ = some (.string D1) := by rw [hD1]; exact HWD.out.at_ 1 (by decide)
  have v2 : w2.cell? ⟨0, 2, none⟩ = some (.string D2) := by rw [hD2]; exact HWD.out.at_ 2 (by decide)
  have v3 : w2.cell? ⟨0, 3, none⟩ = some (.string D3) := by rw [hD3]; exact HWD.out.at_ 3 (by decide)
  have v4 : w2.cell? ⟨0, 4, none⟩ = some (.string D4) := by rw [hD4]; exact HWD.out.at_ 4 (by decide)
  have v5 : w2.cell? ⟨0, 5, none⟩ = some (.string D5) := by rw [hD5]; exact HWD.out.at_ 5 (by decide)
  have v6 : w2.cell? ⟨0, 6, none⟩ = some (.string D6) := by rw [hD6]; exact HWD.out.at_ 6 (by decide)
  go_wp2_with fail
  clear v0 v1 v2 v3 v4 v5 v6
  rw [← hw3, ← hga]
  clear hw3 hga
  go_loopw [19] (fun i wr => ∃ k : Nat, k ≤ 7 ∧ i = .int .i64 k ∧ (∀ j, j < k → okM s (t0 :: (t1 :: tr)) j = false) ∧ Below w3.heap.size w3 wr) (fun i _ => 7 - (intOf i).toNat)
  case atStart => exact ⟨0, Nat.zero_le _, rfl, fun j h => absurd h (Nat.not_lt_zero j), Below.refl _ _⟩
  case round =>
    obtain ⟨k, hk, rfl, hno, hB⟩ := hrel
    have HNO := Lib.hid hno
    have HB := Lib.hid hB
    have s0 : wr.cell? ⟨g, 0, none⟩ = some (.string t0) := HC.out wr hB
    have hwsz := hB.size
    clear hno hB
    by_cases h7 : k < 7
    rotate_left
    · obtain rfl : k = 7 := by omega
      have HE := Lib.hid (readM_none HNO.out)
      go_wp2_with (refine wpList_store_row rfl 24 _ _ rfl w.heap.size #[.int .i64 0, .int .u64 0, .int .i64 0, .int .u64 0, .int .u64 0] rfl rfl 24 #[.int .i64 0, .int .u64 0, .int .i64 0, .int .u64 0, .int .u64 0] (HZ.out wr HB.out) infoA rfl zone ?_; rw [setRow_self _ _ _ _ _ (HZ.out wr HB.out)])
      exact ⟨rfl, _, ret_a rfl (HZ.out wr HB.out) rfl rfl, by rw [HE.out]; rfl, HBT.out wr HB.out⟩
    have hkk : k = 0 ∨ k = 1 ∨ k = 2 ∨ k = 3 ∨ k = 4 ∨ k = 5 ∨ k = 6 := by omega
    rcases hkk with rfl | rfl | rfl | rfl | rfl | rfl | rfl
    · have hix := idx0 D0 D1 D2 D3 D4 D5 D6
      have HKW := Lib.hid (show kw 0 = D0.data.toList from by rw [hD0.out, ba_data])
      by_cases hd : D0 = t0
      rotate_left
      · have d0 : ¬ D0.toList = t0.toList := fun e => hd (ba_ext (by rw [← ByteArray.toList_eq, ← ByteArray.toList_eq]; exact e))
        have HF := Lib.hid (show okM s (t0 :: (t1 :: tr)) 0 = false from by
          unfold okM
          rw [decide_eq_false (show ¬ kw 0 = w0 (t0 :: (t1 :: tr)) from fun e => hd (ba_ext (by rw [← HKW.out, e]; rfl)))]
          rfl)
        clear hd
        go_wp2_with fail
        go_roundw
        case rel => exact ⟨1, by omega, by go_num, fun j hj => by
          by_cases e : j = 0
          · subst e; exact HF.out
          · exact HNO.out j (by omega), HB.out⟩
        case measure => first | omega | (simp [intOf]; done) | (simp [intOf]; omega)
      have d0 : D0.toList = t0.toList := by rw [hd]
      have HW0 := Lib.hid (show decide (kw 0 = w0 (t0 :: (t1 :: tr))) = true from decide_eq_true (by rw [HKW.out, hd]; rfl))
      clear hd
      cases is with
      | false =>
        have HF := Lib.hid (show okM s (t0 :: (t1 :: tr)) 0 = false from by unfold okM; rw [HIS.out, Bool.and_false]; rfl)
        go_wp2_with fail
        go_roundw
        case rel => exact ⟨1, by omega, by go_num, fun j hj => by
          by_cases e : j = 0
          · subst e; exact HF.out
          · exact HNO.out j (by omega), HB.out⟩
        case measure => first | omega | (simp [intOf]; done) | (simp [intOf]; omega)
      | true =>
        obtain ⟨e0, e1, e2, e3⟩ := HAV.out rfl
        have HX := Lib.hid (show build cellM (nAt (t0 :: (t1 :: tr))) 0 = ⟨0, 0, 0, 0, 0⟩ from by rfl)
        have HTK := Lib.hid (fun (W : World) (hW : Below w3.heap.size w3 W) => HTX.out W hW 0)
        rw [HX.out] at HTK
        unfold encA cellsA at HTK
        dsimp only at HTK
        obtain ⟨TT, hTT⟩ : ∃ x, x = ba (textA ⟨0, 0, 0, 0, 0⟩) := ⟨_, rfl⟩
        rw [← hTT] at HTK
        have HOK := Lib.hid (show okM s (t0 :: (t1 :: tr)) 0 = decide (TT = s) from by
          unfold okM
          rw [HW0.out, HIS.out, HX.out, hTT, Bool.true_and, Bool.true_and, Bool.eq_iff_iff, decide_eq_true_eq, decide_eq_true_eq]
          exact ⟨fun h => ba_ext (by rw [ba_data]; exact h), fun h => by rw [← h, ba_data]⟩)
        clear hTT e0 e1 e2 e3
        go_wp2_with fail
        have HBX := Lib.hid (show Below w3.heap.size w3 (wr.alloc (.cells #[.int .i64 0, .int .u64 0, .int .i64 0, .int .u64 0, .int .u64 0] 24)) from HB.out.alloc HB.out.size _)
        refine (HTK.out _ HBX.out).mono ?_
        rintro e w6 ⟨rfl, hb6⟩
        have HB6 := Lib.hid (HBX.out.trans (hb6.mono HBX.out.size))
        have HX6 := Lib.hid (show w6.heap[wr.heap.size]? = some (.cells #[.int .i64 0, .int .u64 0, .int .i64 0, .int .u64 0, .int .u64 0] 24 (0, 0)) from (hb6.block wr.heap.size (by simp)).trans (heap_alloc_new wr _))
        clear hb6
        have x0 : w6.cell? ⟨wr.heap.size, 0, none⟩ = some (.int .i64 0) := cell_of1' HX6.out 0
        have x1 : w6.cell? ⟨wr.heap.size, 1, none⟩ = some (.int .u64 0) := cell_of1' HX6.out 1
        have x2 : w6.cell? ⟨wr.heap.size, 2, none⟩ = some (.int .i64 0) := cell_of1' HX6.out 2
        have x3 : w6.cell? ⟨wr.heap.size, 3, none⟩ = some (.int .u64 0) := cell_of1' HX6.out 3
        have x4 : w6.cell? ⟨wr.heap.size, 4, none⟩ = some (.int .u64 0) := cell_of1' HX6.out 4
        by_cases hts : TT = s
        · have d1 : TT.toList = s.toList := by rw [hts]
          have HE := Lib.hid (readM_at (k := 0) (by decide) HNO.out (by rw [HOK.out, decide_eq_true hts]))
          rw [HX.out] at HE
          clear hts
          go_wp2_with (refine wpList_store_row rfl 24 _ _ rfl w.heap.size #[.int .i64 0, .int .u64 0, .int .i64 0, .int .u64 0, .int .u64 0] rfl rfl 24 #[.int .i64 0, .int .u64 0, .int .i64 0, .int .u64 0, .int .u64 0] (HZ.out w6 HB6.out) infoA rfl (by simp [Value.oneCell']) ?_)
          exact ⟨rfl, _, ret_a rfl (setRow_heap _ _ _ _ _ _ (HZ.out w6 HB6.out)) rfl rfl, by rw [HE.out]; rfl, below_setRow (HBT.out w6 HB6.out) (Nat.le_refl _) _⟩
        · have d1 : ¬ (TT.toList == s.toList) = true := fun e => hts (by rw [toList_eq_iff] at e; exact of_decide_eq_true e)
          have HF := Lib.hid (show okM s (t0 :: (t1 :: tr)) 0 = false from by rw [HOK.out, decide_eq_false hts])
          clear hts
          go_wp2_with fail
          go_roundw
          case rel => exact ⟨1, by omega, by go_num, fun j hj => by
            by_cases e : j = 0
            · subst e; exact HF.out
            · exact HNO.out j (by omega), HB6.out⟩
          case measure => first | omega | (simp [intOf]; done) | (simp [intOf]; omega)
    · have hix := idx1 D0 D1 D2 D3 D4 D5 D6
      have HKW := Lib.hid (show kw 1 = D1.data.toList from by rw [hD1.out, ba_data])
      by_cases hd : D1 = t0
      rotate_left
      · have d0 : ¬ D1.toList = t0.toList := fun e => hd (ba_ext (by rw [← ByteArray.toList_eq, ← ByteArray.toList_eq]; exact e))
        have HF := Lib.hid (show okM s (t0 :: (t1 :: tr)) 1 = false from by
          unfold okM
          rw [decide_eq_false (show ¬ kw 1 = w0 (t0 :: (t1 :: tr)) from fun e => hd (ba_ext (by rw [← HKW.out, e]; rfl)))]
          rfl)
        clear hd
        go_wp2_with fail
        go_roundw
        case rel => exact ⟨2, by omega, by go_num, fun j hj => by
          by_cases e : j = 1
          · subst e; exact HF.out
          · exact HNO.out j (by omega), HB.out⟩
        case measure => first | omega | (simp [intOf]; done) | (simp [intOf]; omega)
      have d0 : D1.toList = t0.toList := by rw [hd]
      have HW0 := Lib.hid (show decide (kw 1 = w0 (t0 :: (t1 :: tr))) = true from decide_eq_true (by rw [HKW.out, hd]; rfl))
      clear hd
      cases is with
      | false =>
        have HF := Lib.hid (show okM s (t0 :: (t1 :: tr)) 1 = false from by unfold okM; rw [HIS.out, Bool.and_false]; rfl)
        go_wp2_with fail
        go_roundw
        case rel => exact ⟨2, by omega, by go_num, fun j hj => by
          by_cases e : j = 1
          · subst e; exact HF.out
          · exact HNO.out j (by omega), HB.out⟩
        case measure => first | omega | (simp [intOf]; done) | (simp [intOf]; omega)
      | true =>
        obtain ⟨e0, e1, e2, e3⟩ := HAV.out rfl
        obtain ⟨cm, hcm⟩ : ∃ x, x = cellM a1 := ⟨_, rfl⟩
        have HCL := Lib.hid (fun (W : World) => show Calls Tryd.prog 42 #[.int .u64 a1] W fun e w' => e = .returned (.int .i64 cm) ∧ w' = W from by rw [hcm]; exact cell_any W a1 (by rw [e1]; exact (nAt_rng _ 1).1) (by rw [e1]; exact (nAt_rng _ 1).2))
        have HX := Lib.hid (show build cellM (nAt (t0 :: (t1 :: tr))) 1 = ⟨1, a0, cm, 0, 0⟩ from by rw [hcm, e0, e1]; rfl)
        have HTK := Lib.hid (fun (W : World) (hW : Below w3.heap.size w3 W) => HTX.out W hW 1)
        rw [HX.out] at HTK
        unfold encA cellsA at HTK
        dsimp only at HTK
        obtain ⟨TT, hTT⟩ : ∃ x, x = ba (textA ⟨1, a0, cm, 0, 0⟩) := ⟨_, rfl⟩
        rw [← hTT] at HTK
        have HOK := Lib.hid (show okM s (t0 :: (t1 :: tr)) 1 = decide (TT = s) from by
          unfold okM
          rw [HW0.out, HIS.out, HX.out, hTT, Bool.true_and, Bool.true_and, Bool.eq_iff_iff, decide_eq_true_eq, decide_eq_true_eq]
          exact ⟨fun h => ba_ext (by rw [ba_data]; exact h), fun h => by rw [← h, ba_data]⟩)
        clear hTT hcm e0 e1 e2 e3
        go_wp2_with fail
        have HBA := Lib.hid (show Below w3.heap.size w3 (wr.alloc (.cells #[.int .i64 1, .int .u64 0, .int .i64 0, .int .u64 0, .int .u64 0] 24)) from HB.out.alloc HB.out.size _)
        have hT0 : A4 ga a0 a1 a2 a3 (wr.alloc (.cells #[.int .i64 1, .int .u64 0, .int .i64 0, .int .u64 0, .int .u64 0] 24)).drew := HA.out _ HBA.out.drew
        refine till_reg2 (A4 ga a0 a1 a2 a3) (fun _ => True) 8 (by kernel_rfl) ?_
        refine Rr.take_T 0 (v := ?v10) rfl (by kernel_rfl) (by kernel_rfl) (by kernel_rfl) (by kernel_rfl) (fun _ _ _ h => h) hT0 (fun _ => trivial) (Or.inl ⟨by rfl, ?y10⟩) ?z10
        case y10 =>
          intro wz hz
          go_simp
          try with_reducible rfl
        case z10 =>
        try simp only [Act.put, List.setIfInBounds_toArray, List.set_cons_zero, List.set_cons_succ]
        refine Rr.take_T 1 (v := ?v11) rfl (by kernel_rfl) (by kernel_rfl) (by kernel_rfl) (by kernel_rfl) (fun _ _ _ h => h) hT0 (fun _ => trivial) (Or.inl ⟨by rfl, ?y11⟩) ?z11
        case y11 =>
          intro wz hz
          have hc : wz.cell? ⟨ga, 0, none⟩ = some (.int .u64 a0) := hz 0 _ rfl
          go_simp
          try with_reducible rfl
        case z11 =>
        try simp only [Act.put, List.setIfInBounds_toArray, List.set_cons_zero, List.set_cons_succ]
        refine Rr.take_T 2 (v := ?v12) rfl (by kernel_rfl) (by kernel_rfl) (by kernel_rfl) (by kernel_rfl) (fun _ _ _ h => h) hT0 (fun _ => trivial) (Or.inl ⟨by rfl, ?y12⟩) ?z12
        case y12 =>
          intro wz hz
          go_simp
          try with_reducible rfl
        case z12 =>
        try simp only [Act.put, List.setIfInBounds_toArray, List.set_cons_zero, List.set_cons_succ]
        refine Rr.take_T 3 (v := ?v13) rfl (by kernel_rfl) (by kernel_rfl) (by kernel_rfl) (by kernel_rfl) (fun _ _ _ h => h) hT0 (fun _ => trivial) (Or.inl ⟨by rfl, ?y13⟩) ?z13
        case y13 =>
          intro wz hz
          have hc : wz.cell? ⟨ga, 1, none⟩ = some (.int .u64 a1) := hz 1 _ rfl
          go_simp
          try with_reducible rfl
        case z13 =>
        try simp only [Act.put, List.setIfInBounds_toArray, List.set_cons_zero, List.set_cons_succ]
        refine Rr.take_T 5 (v := ?v15) rfl (by kernel_rfl) (by kernel_rfl) (by kernel_rfl) (by kernel_rfl) (fun _ _ _ h => h) hT0 (fun _ => trivial) (Or.inl ⟨by rfl, ?y15⟩) ?z15
        case y15 =>
          intro wz hz
          go_simp
          try with_reducible rfl
        case z15 =>
        try simp only [Act.put, List.setIfInBounds_toArray, List.set_cons_zero, List.set_cons_succ]
        refine Rr.till_all [4] (by kernel_rfl) (by simp) (List.forall_mem_cons.2 ⟨fun K hK => ?_, fun i hi => by cases hi⟩)
        refine Rr.op_at _ rfl ?_
        go_simp
        refine (HCL.out _).mono ?_
        rintro e w5 ⟨rfl, rfl⟩
        refine hK _ _ hT0 (fun _ => trivial) ?_
        clear hK K
        try simp only [Act.put, List.setIfInBounds_toArray, List.set_cons_zero, List.set_cons_succ]
        refine Rr.till_all [6] (by kernel_rfl) (by simp) (List.forall_mem_cons.2 ⟨fun K hK => ?_, fun i hi => by cases hi⟩)
        refine Rr.op_at _ rfl ?_
        go_simp
        refine hK _ _ (HA.out _ ((HB.out.alloc HB.out.size _).drew)) (fun _ => trivial) ?_
        clear hK K
        try simp only [Act.put, List.setIfInBounds_toArray, List.set_cons_zero, List.set_cons_succ]
        refine Rr.take_T 7 (v := ?v17) rfl (by kernel_rfl) (by kernel_rfl) (by kernel_rfl) (by kernel_rfl) (fun _ _ _ h => h) (HA.out _ ((HB.out.alloc HB.out.size _).drew)) (fun _ => trivial) (Or.inl ⟨by rfl, ?y17⟩) ?z17
        case y17 =>
          intro wz hz
          go_simp
          try with_reducible rfl
        case z17 =>
        try simp only [Act.put, List.setIfInBounds_toArray, List.set_cons_zero, List.set_cons_succ]
        refine Rr.till_all [8] (by kernel_rfl) (by simp) (List.forall_mem_cons.2 ⟨fun K hK => ?_, fun i hi => by cases hi⟩)
        refine Rr.op_at _ rfl ?_
        go_simp
        refine hK _ _ (HA.out _ ((HB.out.alloc HB.out.size _).drew)) (fun _ => trivial) ?_
        clear hK K
        try simp only [Act.put, List.setIfInBounds_toArray, List.set_cons_zero, List.set_cons_succ]
        refine Rr.till_done (by kernel_rfl) ?_ _
        clear hT0
        go_wp2_with fail
        have HBX := Lib.hid (show Below w3.heap.size w3 ((wr.alloc (.cells #[.int .i64 1, .int .u64 a0, .int .i64 cm, .int .u64 0, .int .u64 0] 24)).drew) from (HB.out.alloc HB.out.size _).drew)
        refine (HTK.out _ HBX.out).mono ?_
        rintro e w6 ⟨rfl, hb6⟩
        have HB6 := Lib.hid (HBX.out.trans (hb6.mono HBX.out.size))
        have HX6 := Lib.hid (show w6.heap[wr.heap.size]? = some (.cells #[.int .i64 1, .int .u64 a0, .int .i64 cm, .int .u64 0, .int .u64 0] 24 (0, 0)) from (hb6.block wr.heap.size (by simp)).trans (heap_alloc_new wr _))
        clear hb6
        have x0 : w6.cell? ⟨wr.heap.size, 0, none⟩ = some (.int .i64 1) := cell_of1' HX6.out 0
        have x1 : w6.cell? ⟨wr.heap.size, 1, none⟩ = some (.int .u64 a0) := cell_of1' HX6.out 1
        have x2 : w6.cell? ⟨wr.heap.size, 2, none⟩ = some (.int .i64 cm) := cell_of1' HX6.out 2
        have x3 : w6.cell? ⟨wr.heap.size, 3, none⟩ = some (.int .u64 0) := cell_of1' HX6.out 3
        have x4 : w6.cell? ⟨wr.heap.size, 4, none⟩ = some (.int .u64 0) := cell_of1' HX6.out 4
        by_cases hts : TT = s
        · have d1 : TT.toList = s.toList := by rw [hts]
          have HE := Lib.hid (readM_at (k := 1) (by decide) HNO.out (by rw [HOK.out, decide_eq_true hts]))
          rw [HX.out] at HE
          clear hts
          go_wp2_with (refine wpList_store_row rfl 24 _ _ rfl w.heap.size #[.int .i64 1, .int .u64 a0, .int .i64 cm, .int .u64 0, .int .u64 0] rfl rfl 24 #[.int .i64 0, .int .u64 0, .int .i64 0, .int .u64 0, .int .u64 0] (HZ.out w6 HB6.out) infoA rfl (by simp [Value.oneCell']) ?_)
          exact ⟨rfl, _, ret_a rfl (setRow_heap _ _ _ _ _ _ (HZ.out w6 HB6.out)) rfl rfl, by rw [HE.out]; rfl, below_setRow (HBT.out w6 HB6.out) (Nat.le_refl _) _⟩
        · have d1 : ¬ (TT.toList == s.toList) = true := fun e => hts (by rw [toList_eq_iff] at e; exact of_decide_eq_true e)
          have HF := Lib.hid (show okM s (t0 :: (t1 :: tr)) 1 = false from by rw [HOK.out, decide_eq_false hts])
          clear hts
          go_wp2_with fail
          go_roundw
          case rel => exact ⟨2, by omega, by go_num, fun j hj => by
            by_cases e : j = 1
            · subst e; exact HF.out
            · exact HNO.out j (by omega), HB6.out⟩
          case measure => first | omega | (simp [intOf]; done) | (simp [intOf]; omega)
    · have hix := idx2 D0 D1 D2 D3 D4 D5 D6
      have HKW := Lib.hid (show kw 2 = D2.data.toList from by rw [hD2.out, ba_data])
      by_cases hd : D2 = t0
      rotate_left
      · have d0 : ¬ D2.toList = t0.toList := fun e => hd (ba_ext (by rw [← ByteArray.toList_eq, ← ByteArray.toList_eq]; exact e))
        have HF := Lib.hid (show okM s (t0 :: (t1 :: tr)) 2 = false from by
          unfold okM
          rw [decide_eq_false (show ¬ kw 2 = w0 (t0 :: (t1 :: tr)) from fun e => hd (ba_ext (by rw [← HKW.out, e]; rfl)))]
          rfl)
        clear hd
        go_wp2_with fail
        go_roundw
        case rel => exact ⟨3, by omega, by go_num, fun j hj => by
          by_cases e : j = 2
          · subst e; exact HF.out
          · exact HNO.out j (by omega), HB.out⟩
        case measure => first | omega | (simp [intOf]; done) | (simp [intOf]; omega)
      have d0 : D2.toList = t0.toList := by rw [hd]
      have HW0 := Lib.hid (show decide (kw 2 = w0 (t0 :: (t1 :: tr))) = true from decide_eq_true (by rw [HKW.out, hd]; rfl))
      clear hd
      cases is with
      | false =>
        have HF := Lib.hid (show okM s (t0 :: (t1 :: tr)) 2 = false from by unfold okM; rw [HIS.out, Bool.and_false]; rfl)
        go_wp2_with fail
        go_roundw
        case rel => exact ⟨3, by omega, by go_num, fun j hj => by
          by_cases e : j = 2
          · subst e; exact HF.out
          · exact HNO.out j (by omega), HB.out⟩
        case measure => first | omega | (simp [intOf]; done) | (simp [intOf]; omega)
      | true =>
        obtain ⟨e0, e1, e2, e3⟩ := HAV.out rfl
        obtain ⟨cm, hcm⟩ : ∃ x, x = cellM a1 := ⟨_, rfl⟩
        have HCL := Lib.hid (fun (W : World) => show Calls Tryd.prog 42 #[.int .u64 a1] W fun e w' => e = .returned (.int .i64 cm) ∧ w' = W from by rw [hcm]; exact cell_any W a1 (by rw [e1]; exact (nAt_rng _ 1).1) (by rw [e1]; exact (nAt_rng _ 1).2))
        have HX := Lib.hid (show build cellM (nAt (t0 :: (t1 :: tr))) 2 = ⟨2, a0, cm, 0, a2⟩ from by rw [hcm, e0, e1, e2]; rfl)
        have HTK := Lib.hid (fun (W : World) (hW : Below w3.heap.size w3 W) => HTX.out W hW 2)
        rw [HX.out] at HTK
        unfold encA cellsA at HTK
        dsimp only at HTK
        obtain ⟨TT, hTT⟩ : ∃ x, x = ba (textA ⟨2, a0, cm, 0, a2⟩) := ⟨_, rfl⟩
        rw [← hTT] at HTK
        have HOK := Lib.hid (show okM s (t0 :: (t1 :: tr)) 2 = decide (TT = s) from by
          unfold okM
          rw [HW0.out, HIS.out, HX.out, hTT, Bool.true_and, Bool.true_and, Bool.eq_iff_iff, decide_eq_true_eq, decide_eq_true_eq]
          exact ⟨fun h => ba_ext (by rw [ba_data]; exact h), fun h => by rw [← h, ba_data]⟩)
        clear hTT hcm e0 e1 e2 e3
        go_wp2_with fail
        have HBA := Lib.hid (show Below w3.heap.size w3 (wr.alloc (.cells #[.int .i64 2, .int .u64 0, .int .i64 0, .int .u64 0, .int .u64 0] 24)) from HB.out.alloc HB.out.size _)
        have hT0 : A4 ga a0 a1 a2 a3 (wr.alloc (.cells #[.int .i64 2, .int .u64 0, .int .i64 0, .int .u64 0, .int .u64 0] 24)).drew := HA.out _ HBA.out.drew
        refine till_reg2 (A4 ga a0 a1 a2 a3) (fun _ => True) 12 (by kernel_rfl) ?_
        refine Rr.take_T 0 (v := ?v20) rfl (by kernel_rfl) (by kernel_rfl) (by kernel_rfl) (by kernel_rfl) (fun _ _ _ h => h) hT0 (fun _ => trivial) (Or.inl ⟨by rfl, ?y20⟩) ?z20
        case y20 =>
          intro wz hz
          go_simp
          try with_reducible rfl
        case z20 =>
        try simp only [Act.put, List.setIfInBounds_toArray, List.set_cons_zero, List.set_cons_succ]
        refine Rr.take_T 1 (v := ?v21) rfl (by kernel_rfl) (by kernel_rfl) (by kernel_rfl) (by kernel_rfl) (fun _ _ _ h => h) hT0 (fun _ => trivial) (Or.inl ⟨by rfl, ?y21⟩) ?z21
        case y21 =>
          intro wz hz
          have hc : wz.cell? ⟨ga, 0, none⟩ = some (.int .u64 a0) := hz 0 _ rfl
          go_simp
          try with_reducible rfl
        case z21 =>
        try simp only [Act.put, List.setIfInBounds_toArray, List.set_cons_zero, List.set_cons_succ]
        refine Rr.take_T 2 (v := ?v22) rfl (by kernel_rfl) (by kernel_rfl) (by kernel_rfl) (by kernel_rfl) (fun _ _ _ h => h) hT0 (fun _ => trivial) (Or.inl ⟨by rfl, ?y22⟩) ?z22
        case y22 =>
          intro wz hz
          go_simp
          try with_reducible rfl
        case z22 =>
        try simp only [Act.put, List.setIfInBounds_toArray, List.set_cons_zero, List.set_cons_succ]
        refine Rr.take_T 3 (v := ?v23) rfl (by kernel_rfl) (by kernel_rfl) (by kernel_rfl) (by kernel_rfl) (fun _ _ _ h => h) hT0 (fun _ => trivial) (Or.inl ⟨by rfl, ?y23⟩) ?z23
        case y23 =>
          intro wz hz
          have hc : wz.cell? ⟨ga, 1, none⟩ = some (.int .u64 a1) := hz 1 _ rfl
          go_simp
          try with_reducible rfl
        case z23 =>
        try simp only [Act.put, List.setIfInBounds_toArray, List.set_cons_zero, List.set_cons_succ]
        refine Rr.take_T 5 (v := ?v25) rfl (by kernel_rfl) (by kernel_rfl) (by kernel_rfl) (by kernel_rfl) (fun _ _ _ h => h) hT0 (fun _ => trivial) (Or.inl ⟨by rfl, ?y25⟩) ?z25
        case y25 =>
          intro wz hz
          go_simp
          try with_reducible rfl
        case z25 =>
        try simp only [Act.put, List.setIfInBounds_toArray, List.set_cons_zero, List.set_cons_succ]
        refine Rr.take_T 6 (v := ?v26) rfl (by kernel_rfl) (by kernel_rfl) (by kernel_rfl) (by kernel_rfl) (fun _ _ _ h => h) hT0 (fun _ => trivial) (Or.inl ⟨by rfl, ?y26⟩) ?z26
        case y26 =>
          intro wz hz
          have hc : wz.cell? ⟨ga, 2, none⟩ = some (.int .u64 a2) := hz 2 _ rfl
          go_simp
          try with_reducible rfl
        case z26 =>
        try simp only [Act.put, List.setIfInBounds_toArray, List.set_cons_zero, List.set_cons_succ]
        refine Rr.take_T 7 (v := ?v27) rfl (by kernel_rfl) (by kernel_rfl) (by kernel_rfl) (by kernel_rfl) (fun _ _ _ h => h) hT0 (fun _ => trivial) (Or.inl ⟨by rfl, ?y27⟩) ?z27
        case y27 =>
          intro wz hz
          go_simp
          try with_reducible rfl
        case z27 =>
        try simp only [Act.put, List.setIfInBounds_toArray, List.set_cons_zero, List.set_cons_succ]
        refine Rr.till_all [4] (by kernel_rfl) (by simp) (List.forall_mem_cons.2 ⟨fun K hK => ?_, fun i hi => by cases hi⟩)
        refine Rr.op_at _ rfl ?_
        go_simp
        refine (HCL.out _).mono ?_
        rintro e w5 ⟨rfl, rfl⟩
        refine hK _ _ hT0 (fun _ => trivial) ?_
        clear hK K
        try simp only [Act.put, List.setIfInBounds_toArray, List.set_cons_zero, List.set_cons_succ]
        refine Rr.till_all [8] (by kernel_rfl) (by simp) (List.forall_mem_cons.2 ⟨fun K hK => ?_, fun i hi => by cases hi⟩)
        refine Rr.op_at _ rfl ?_
        go_simp
        refine hK _ _ (HA.out _ ((HB.out.alloc HB.out.size _).drew)) (fun _ => trivial) ?_
        clear hK K
        try simp only [Act.put, List.setIfInBounds_toArray, List.set_cons_zero, List.set_cons_succ]
        refine Rr.take_T 9 (v := ?v29) rfl (by kernel_rfl) (by kernel_rfl) (by kernel_rfl) (by kernel_rfl) (fun _ _ _ h => h) (HA.out _ ((HB.out.alloc HB.out.size _).drew)) (fun _ => trivial) (Or.inl ⟨by rfl, ?y29⟩) ?z29
        case y29 =>
          intro wz hz
          go_simp
          try with_reducible rfl
        case z29 =>
        try simp only [Act.put, List.setIfInBounds_toArray, List.set_cons_zero, List.set_cons_succ]
        refine Rr.till_all [10] (by kernel_rfl) (by simp) (List.forall_mem_cons.2 ⟨fun K hK => ?_, fun i hi => by cases hi⟩)
        refine Rr.op_at _ rfl ?_
        go_simp
        refine hK _ _ (HA.out _ ((HB.out.alloc HB.out.size _).drew)) (fun _ => trivial) ?_
        clear hK K
        try simp only [Act.put, List.setIfInBounds_toArray, List.set_cons_zero, List.set_cons_succ]
        refine Rr.take_T 11 (v := ?v211) rfl (by kernel_rfl) (by kernel_rfl) (by kernel_rfl) (by kernel_rfl) (fun _ _ _ h => h) (HA.out _ ((HB.out.alloc HB.out.size _).drew)) (fun _ => trivial) (Or.inl ⟨by rfl, ?y211⟩) ?z211
        case y211 =>
          intro wz hz
          go_simp
          try with_reducible rfl
        case z211 =>
        try simp only [Act.put, List.setIfInBounds_toArray, List.set_cons_zero, List.set_cons_succ]
        refine Rr.till_all [12] (by kernel_rfl) (by simp) (List.forall_mem_cons.2 ⟨fun K hK => ?_, fun i hi => by cases hi⟩)
        refine Rr.op_at _ rfl ?_
        go_simp
        refine hK _ _ (HA.out _ ((HB.out.alloc HB.out.size _).drew)) (fun _ => trivial) ?_
        clear hK K
        try simp only [Act.put, List.setIfInBounds_toArray, List.set_cons_zero, List.set_cons_succ]
        refine Rr.till_done (by kernel_rfl) ?_ _
        clear hT0
        go_wp2_with fail
        have HBX := Lib.hid (show Below w3.heap.size w3 ((wr.alloc (.cells #[.int .i64 2, .int .u64 a0, .int .i64 cm, .int .u64 0, .int .u64 a2] 24)).drew) from (HB.out.alloc HB.out.size _).drew)
        refine (HTK.out _ HBX.out).mono ?_
        rintro e w6 ⟨rfl, hb6⟩
        have HB6 := Lib.hid (HBX.out.trans (hb6.mono HBX.out.size))
        have HX6 := Lib.hid (show w6.heap[wr.heap.size]? = some (.cells #[.int .i64 2, .int .u64 a0, .int .i64 cm, .int .u64 0, .int .u64 a2] 24 (0, 0)) from (hb6.block wr.heap.size (by simp)).trans (heap_alloc_new wr _))
        clear hb6
        have x0 : w6.cell? ⟨wr.heap.size, 0, none⟩ = some (.int .i64 2) := cell_of1' HX6.out 0
        have x1 : w6.cell? ⟨wr.heap.size, 1, none⟩ = some (.int .u64 a0) := cell_of1' HX6.out 1
        have x2 : w6.cell? ⟨wr.heap.size, 2, none⟩ = some (.int .i64 cm) := cell_of1' HX6.out 2
        have x3 : w6.cell? ⟨wr.heap.size, 3, none⟩ = some (.int .u64 0) := cell_of1' HX6.out 3
        have x4 : w6.cell? ⟨wr.heap.size, 4, none⟩ = some (.int .u64 a2) := cell_of1' HX6.out 4
        by_cases hts : TT = s
        · have d1 : TT.toList = s.toList := by rw [hts]
          have HE := Lib.hid (readM_at (k := 2) (by decide) HNO.out (by rw [HOK.out, decide_eq_true hts]))
          rw [HX.out] at HE
          clear hts
          go_wp2_with (refine wpList_store_row rfl 24 _ _ rfl w.heap.size #[.int .i64 2, .int .u64 a0, .int .i64 cm, .int .u64 0, .int .u64 a2] rfl rfl 24 #[.int .i64 0, .int .u64 0, .int .i64 0, .int .u64 0, .int .u64 0] (HZ.out w6 HB6.out) infoA rfl (by simp [Value.oneCell']) ?_)
          exact ⟨rfl, _, ret_a rfl (setRow_heap _ _ _ _ _ _ (HZ.out w6 HB6.out)) rfl rfl, by rw [HE.out]; rfl, below_setRow (HBT.out w6 HB6.out) (Nat.le_refl _) _⟩
        · have d1 : ¬ (TT.toList == s.toList) = true := fun e => hts (by rw [toList_eq_iff] at e; exact of_decide_eq_true e)
          have HF := Lib.hid (show okM s (t0 :: (t1 :: tr)) 2 = false from by rw [HOK.out, decide_eq_false hts])
          clear hts
          go_wp2_with fail
          go_roundw
          case rel => exact ⟨3, by omega, by go_num, fun j hj => by
            by_cases e : j = 2
            · subst e; exact HF.out
            · exact HNO.out j (by omega), HB6.out⟩
          case measure => first | omega | (simp [intOf]; done) | (simp [intOf]; omega)
    · have hix := idx3 D0 D1 D2 D3 D4 D5 D6
      have HKW := Lib.hid (show kw 3 = D3.data.toList from by rw [hD3.out, ba_data])
      by_cases hd : D3 = t0
      rotate_left
      · have d0 : ¬ D3.toList = t0.toList := fun e => hd (ba_ext (by rw [← ByteArray.toList_eq, ← ByteArray.toList_eq]; exact e))
        have HF := Lib.hid (show okM s (t0 :: (t1 :: tr)) 3 = false from by
          unfold okM
          rw [decide_eq_false (show ¬ kw 3 = w0 (t0 :: (t1 :: tr)) from fun e => hd (ba_ext (by rw [← HKW.out, e]; rfl)))]
          rfl)
        clear hd
        go_wp2_with fail
        go_roundw
        case rel => exact ⟨4, by omega, by go_num, fun j hj => by
          by_cases e : j = 3
          · subst e; exact HF.out
          · exact HNO.out j (by omega), HB.out⟩
        case measure => first | omega | (simp [intOf]; done) | (simp [intOf]; omega)
      have d0 : D3.toList = t0.toList := by rw [hd]
      have HW0 := Lib.hid (show decide (kw 3 = w0 (t0 :: (t1 :: tr))) = true from decide_eq_true (by rw [HKW.out, hd]; rfl))
      clear hd
      cases is with
      | false =>
        have HF := Lib.hid (show okM s (t0 :: (t1 :: tr)) 3 = false from by unfold okM; rw [HIS.out, Bool.and_false]; rfl)
        go_wp2_with fail
        go_roundw
        case rel => exact ⟨4, by omega, by go_num, fun j hj => by
          by_cases e : j = 3
          · subst e; exact HF.out
          · exact HNO.out j (by omega), HB.out⟩
        case measure => first | omega | (simp [intOf]; done) | (simp [intOf]; omega)
      | true =>
        obtain ⟨e0, e1, e2, e3⟩ := HAV.out rfl
        obtain ⟨cm, hcm⟩ : ∃ x, x = cellM a1 := ⟨_, rfl⟩
        have HCL := Lib.hid (fun (W : World) => show Calls Tryd.prog 42 #[.int .u64 a1] W fun e w' => e = .returned (.int .i64 cm) ∧ w' = W from by rw [hcm]; exact cell_any W a1 (by rw [e1]; exact (nAt_rng _ 1).1) (by rw [e1]; exact (nAt_rng _ 1).2))
        have HX := Lib.hid (show build cellM (nAt (t0 :: (t1 :: tr))) 3 = ⟨3, a0, cm, a2, a3⟩ from by rw [hcm, e0, e1, e2, e3]; rfl)
        have HTK := Lib.hid (fun (W : World) (hW : Below w3.heap.size w3 W) => HTX.out W hW 3)
        rw [HX.out] at HTK
        unfold encA cellsA at HTK
        dsimp only at HTK
        obtain ⟨TT, hTT⟩ : ∃ x, x = ba (textA ⟨3, a0, cm, a2, a3⟩) := ⟨_, rfl⟩
        rw [← hTT] at HTK
        have HOK := Lib.hid (show okM s (t0 :: (t1 :: tr)) 3 = decide (TT = s) from by
          unfold okM
          rw [HW0.out, HIS.out, HX.out, hTT, Bool.true_and, Bool.true_and, Bool.eq_iff_iff, decide_eq_true_eq, decide_eq_true_eq]
          exact ⟨fun h => ba_ext (by rw [ba_data]; exact h), fun h => by rw [← h, ba_data]⟩)
        clear hTT hcm e0 e1 e2 e3
        go_wp2_with fail
        have HBA := Lib.hid (show Below w3.heap.size w3 (wr.alloc (.cells #[.int .i64 3, .int .u64 0, .int .i64 0, .int .u64 0, .int .u64 0] 24)) from HB.out.alloc HB.out.size _)
        have hT0 : A4 ga a0 a1 a2 a3 (wr.alloc (.cells #[.int .i64 3, .int .u64 0, .int .i64 0, .int .u64 0, .int .u64 0] 24)).drew := HA.out _ HBA.out.drew
        refine till_reg2 (A4 ga a0 a1 a2 a3) (fun _ => True) 16 (by kernel_rfl) ?_
        refine Rr.take_T 0 (v := ?v30) rfl (by kernel_rfl) (by kernel_rfl) (by kernel_rfl) (by kernel_rfl) (fun _ _ _ h => h) hT0 (fun _ => trivial) (Or.inl ⟨by rfl, ?y30⟩) ?z30
        case y30 =>
          intro wz hz
          go_simp
          try with_reducible rfl
        case z30 =>
        try simp only [Act.put, List.setIfInBounds_toArray, List.set_cons_zero, List.set_cons_succ]
        refine Rr.take_T 1 (v := ?v31) rfl (by kernel_rfl) (by kernel_rfl) (by kernel_rfl) (by kernel_rfl) (fun _ _ _ h => h) hT0 (fun _ => trivial) (Or.inl ⟨by rfl, ?y31⟩) ?z31
        case y31 =>
          intro wz hz
          have hc : wz.cell? ⟨ga, 0, none⟩ = some (.int .u64 a0) := hz 0 _ rfl
          go_simp
          try with_reducible rfl
        case z31 =>
        try simp only [Act.put, List.setIfInBounds_toArray, List.set_cons_zero, List.set_cons_succ]
        refine Rr.take_T 2 (v := ?v32) rfl (by kernel_rfl) (by kernel_rfl) (by kernel_rfl) (by kernel_rfl) (fun _ _ _ h => h) hT0 (fun _ => trivial) (Or.inl ⟨by rfl, ?y32⟩) ?z32
        case y32 =>
          intro wz hz
          go_simp
          try with_reducible rfl
        case z32 =>
        try simp only [Act.put, List.setIfInBounds_toArray, List.set_cons_zero, List.set_cons_succ]
        refine Rr.take_T 3 (v := ?v33) rfl (by kernel_rfl) (by kernel_rfl) (by kernel_rfl) (by kernel_rfl) (fun _ _ _ h => h) hT0 (fun _ => trivial) (Or.inl ⟨by rfl, ?y33⟩) ?z33
        case y33 =>
          intro wz hz
          have hc : wz.cell? ⟨ga, 1, none⟩ = some (.int .u64 a1) := hz 1 _ rfl
          go_simp
          try with_reducible rfl
        case z33 =>
        try simp only [Act.put, List.setIfInBounds_toArray, List.set_cons_zero, List.set_cons_succ]
        refine Rr.take_T 5 (v := ?v35) rfl (by kernel_rfl) (by kernel_rfl) (by kernel_rfl) (by kernel_rfl) (fun _ _ _ h => h) hT0 (fun _ => trivial) (Or.inl ⟨by rfl, ?y35⟩) ?z35
        case y35 =>
          intro wz hz
          go_simp
          try with_reducible rfl
        case z35 =>
        try simp only [Act.put, List.setIfInBounds_toArray, List.set_cons_zero, List.set_cons_succ]
        refine Rr.take_T 6 (v := ?v36) rfl (by kernel_rfl) (by kernel_rfl) (by kernel_rfl) (by kernel_rfl) (fun _ _ _ h => h) hT0 (fun _ => trivial) (Or.inl ⟨by rfl, ?y36⟩) ?z36
        case y36 =>
          intro wz hz
          have hc : wz.cell? ⟨ga, 2, none⟩ = some (.int .u64 a2) := hz 2 _ rfl
          go_simp
          try with_reducible rfl
        case z36 =>
        try simp only [Act.put, List.setIfInBounds_toArray, List.set_cons_zero, List.set_cons_succ]
        refine Rr.take_T 7 (v := ?v37) rfl (by kernel_rfl) (by kernel_rfl) (by kernel_rfl) (by kernel_rfl) (fun _ _ _ h => h) hT0 (fun _ => trivial) (Or.inl ⟨by rfl, ?y37⟩) ?z37
        case y37 =>
          intro wz hz
          go_simp
          try with_reducible rfl
        case z37 =>
        try simp only [Act.put, List.setIfInBounds_toArray, List.set_cons_zero, List.set_cons_succ]
        refine Rr.take_T 8 (v := ?v38) rfl (by kernel_rfl) (by kernel_rfl) (by kernel_rfl) (by kernel_rfl) (fun _ _ _ h => h) hT0 (fun _ => trivial) (Or.inl ⟨by rfl, ?y38⟩) ?z38
        case y38 =>
          intro wz hz
          have hc : wz.cell? ⟨ga, 3, none⟩ = some (.int .u64 a3) := hz 3 _ rfl
          go_simp
          try with_reducible rfl
        case z38 =>
        try simp only [Act.put, List.setIfInBounds_toArray, List.set_cons_zero, List.set_cons_succ]
        refine Rr.take_T 9 (v := ?v39) rfl (by kernel_rfl) (by kernel_rfl) (by kernel_rfl) (by kernel_rfl) (fun _ _ _ h => h) hT0 (fun _ => trivial) (Or.inl ⟨by rfl, ?y39⟩) ?z39
        case y39 =>
          intro wz hz
          go_simp
          try with_reducible rfl
        case z39 =>
        try simp only [Act.put, List.setIfInBounds_toArray, List.set_cons_zero, List.set_cons_succ]
        refine Rr.till_all [4] (by kernel_rfl) (by simp) (List.forall_mem_cons.2 ⟨fun K hK => ?_, fun i hi => by cases hi⟩)
        refine Rr.op_at _ rfl ?_
        go_simp
        refine (HCL.out _).mono ?_
        rintro e w5 ⟨rfl, rfl⟩
        refine hK _ _ hT0 (fun _ => trivial) ?_
        clear hK K
        try simp only [Act.put, List.setIfInBounds_toArray, List.set_cons_zero, List.set_cons_succ]
        refine Rr.till_all [10] (by kernel_rfl) (by simp) (List.forall_mem_cons.2 ⟨fun K hK => ?_, fun i hi => by cases hi⟩)
        refine Rr.op_at _ rfl ?_
        go_simp
        refine hK _ _ (HA.out _ ((HB.out.alloc HB.out.size _).drew)) (fun _ => trivial) ?_
        clear hK K
        try simp only [Act.put, List.setIfInBounds_toArray, List.set_cons_zero, List.set_cons_succ]
        refine Rr.take_T 11 (v := ?v311) rfl (by kernel_rfl) (by kernel_rfl) (by kernel_rfl) (by kernel_rfl) (fun _ _ _ h => h) (HA.out _ ((HB.out.alloc HB.out.size _).drew)) (fun _ => trivial) (Or.inl ⟨by rfl, ?y311⟩) ?z311
        case y311 =>
          intro wz hz
          go_simp
          try with_reducible rfl
        case z311 =>
        try simp only [Act.put, List.setIfInBounds_toArray, List.set_cons_zero, List.set_cons_succ]
        refine Rr.till_all [12] (by kernel_rfl) (by simp) (List.forall_mem_cons.2 ⟨fun K hK => ?_, fun i hi => by cases hi⟩)
        refine Rr.op_at _ rfl ?_
        go_simp
        refine hK _ _ (HA.out _ ((HB.out.alloc HB.out.size _).drew)) (fun _ => trivial) ?_
        clear hK K
        try simp only [Act.put, List.setIfInBounds_toArray, List.set_cons_zero, List.set_cons_succ]
        refine Rr.take_T 13 (v := ?v313) rfl (by kernel_rfl) (by kernel_rfl) (by kernel_rfl) (by kernel_rfl) (fun _ _ _ h => h) (HA.out _ ((HB.out.alloc HB.out.size _).drew)) (fun _ => trivial) (Or.inl ⟨by rfl, ?y313⟩) ?z313
        case y313 =>
          intro wz hz
          go_simp
          try with_reducible rfl
        case z313 =>
        try simp only [Act.put, List.setIfInBounds_toArray, List.set_cons_zero, List.set_cons_succ]
        refine Rr.till_all [14] (by kernel_rfl) (by simp) (List.forall_mem_cons.2 ⟨fun K hK => ?_, fun i hi => by cases hi⟩)
        refine Rr.op_at _ rfl ?_
        go_simp
        refine hK _ _ (HA.out _ ((HB.out.alloc HB.out.size _).drew)) (fun _ => trivial) ?_
        clear hK K
        try simp only [Act.put, List.setIfInBounds_toArray, List.set_cons_zero, List.set_cons_succ]
        refine Rr.take_T 15 (v := ?v315) rfl (by kernel_rfl) (by kernel_rfl) (by kernel_rfl) (by kernel_rfl) (fun _ _ _ h => h) (HA.out _ ((HB.out.alloc HB.out.size _).drew)) (fun _ => trivial) (Or.inl ⟨by rfl, ?y315⟩) ?z315
        case y315 =>
          intro wz hz
          go_simp
          try with_reducible rfl
        case z315 =>
        try simp only [Act.put, List.setIfInBounds_toArray, List.set_cons_zero, List.set_cons_succ]
        refine Rr.till_all [16] (by kernel_rfl) (by simp) (List.forall_mem_cons.2 ⟨fun K hK => ?_, fun i hi => by cases hi⟩)
        refine Rr.op_at _ rfl ?_
        go_simp
        refine hK _ _ (HA.out _ ((HB.out.alloc HB.out.size _).drew)) (fun _ => trivial) ?_
        clear hK K
        try simp only [Act.put, List.setIfInBounds_toArray, List.set_cons_zero, List.set_cons_succ]
        refine Rr.till_done (by kernel_rfl) ?_ _
        clear hT0
        go_wp2_with fail
        have HBX := Lib.hid (show Below w3.heap.size w3 ((wr.alloc (.cells #[.int .i64 3, .int .u64 a0, .int .i64 cm, .int .u64 a2, .int .u64 a3] 24)).drew) from (HB.out.alloc HB.out.size _).drew)
        refine (HTK.out _ HBX.out).mono ?_
        rintro e w6 ⟨rfl, hb6⟩
        have HB6 := Lib.hid (HBX.out.trans (hb6.mono HBX.out.size))
        have HX6 := Lib.hid (show w6.heap[wr.heap.size]? = some (.cells #[.int .i64 3, .int .u64 a0, .int .i64 cm, .int .u64 a2, .int .u64 a3] 24 (0, 0)) from (hb6.block wr.heap.size (by simp)).trans (heap_alloc_new wr _))
        clear hb6
        have x0 : w6.cell? ⟨wr.heap.size, 0, none⟩ = some (.int .i64 3) := cell_of1' HX6.out 0
        have x1 : w6.cell? ⟨wr.heap.size, 1, none⟩ = some (.int .u64 a0) := cell_of1' HX6.out 1
        have x2 : w6.cell? ⟨wr.heap.size, 2, none⟩ = some (.int .i64 cm) := cell_of1' HX6.out 2
        have x3 : w6.cell? ⟨wr.heap.size, 3, none⟩ = some (.int .u64 a2) := cell_of1' HX6.out 3
        have x4 : w6.cell? ⟨wr.heap.size, 4, none⟩ = some (.int .u64 a3) := cell_of1' HX6.out 4
        by_cases hts : TT = s
        · have d1 : TT.toList = s.toList := by rw [hts]
          have HE := Lib.hid (readM_at (k := 3) (by decide) HNO.out (by rw [HOK.out, decide_eq_true hts]))
          rw [HX.out] at HE
          clear hts
          go_wp2_with (refine wpList_store_row rfl 24 _ _ rfl w.heap.size #[.int .i64 3, .int .u64 a0, .int .i64 cm, .int .u64 a2, .int .u64 a3] rfl rfl 24 #[.int .i64 0, .int .u64 0, .int .i64 0, .int .u64 0, .int .u64 0] (HZ.out w6 HB6.out) infoA rfl (by simp [Value.oneCell']) ?_)
          exact ⟨rfl, _, ret_a rfl (setRow_heap _ _ _ _ _ _ (HZ.out w6 HB6.out)) rfl rfl, by rw [HE.out]; rfl, below_setRow (HBT.out w6 HB6.out) (Nat.le_refl _) _⟩
        · have d1 : ¬ (TT.toList == s.toList) = true := fun e => hts (by rw [toList_eq_iff] at e; exact of_decide_eq_true e)
          have HF := Lib.hid (show okM s (t0 :: (t1 :: tr)) 3 = false from by rw [HOK.out, decide_eq_false hts])
          clear hts
          go_wp2_with fail
          go_roundw
          case rel => exact ⟨4, by omega, by go_num, fun j hj => by
            by_cases e : j = 3
            · subst e; exact HF.out
            · exact HNO.out j (by omega), HB6.out⟩
          case measure => first | omega | (simp [intOf]; done) | (simp [intOf]; omega)
    · have hix := idx4 D0 D1 D2 D3 D4 D5 D6
      have HKW := Lib.hid (show kw 4 = D4.data.toList from by rw [hD4.out, ba_data])
      by_cases hd : D4 = t0
      rotate_left
      · have d0 : ¬ D4.toList = t0.toList := fun e => hd (ba_ext (by rw [← ByteArray.toList_eq, ← ByteArray.toList_eq]; exact e))
        have HF := Lib.hid (show okM s (t0 :: (t1 :: tr)) 4 = false from by
          unfold okM
          rw [decide_eq_false (show ¬ kw 4 = w0 (t0 :: (t1 :: tr)) from fun e => hd (ba_ext (by rw [← HKW.out, e]; rfl)))]
          rfl)
        clear hd
        go_wp2_with fail
        go_roundw
        case rel => exact ⟨5, by omega, by go_num, fun j hj => by
          by_cases e : j = 4
          · subst e; exact HF.out
          · exact HNO.out j (by omega), HB.out⟩
        case measure => first | omega | (simp [intOf]; done) | (simp [intOf]; omega)
      have d0 : D4.toList = t0.toList := by rw [hd]
      have HW0 := Lib.hid (show decide (kw 4 = w0 (t0 :: (t1 :: tr))) = true from decide_eq_true (by rw [HKW.out, hd]; rfl))
      clear hd
      cases is with
      | false =>
        have HF := Lib.hid (show okM s (t0 :: (t1 :: tr)) 4 = false from by unfold okM; rw [HIS.out, Bool.and_false]; rfl)
        go_wp2_with fail
        go_roundw
        case rel => exact ⟨5, by omega, by go_num, fun j hj => by
          by_cases e : j = 4
          · subst e; exact HF.out
          · exact HNO.out j (by omega), HB.out⟩
        case measure => first | omega | (simp [intOf]; done) | (simp [intOf]; omega)
      | true =>
        obtain ⟨e0, e1, e2, e3⟩ := HAV.out rfl
        obtain ⟨cm, hcm⟩ : ∃ x, x = cellM a1 := ⟨_, rfl⟩
        have HCL := Lib.hid (fun (W : World) => show Calls Tryd.prog 42 #[.int .u64 a1] W fun e w' => e = .returned (.int .i64 cm) ∧ w' = W from by rw [hcm]; exact cell_any W a1 (by rw [e1]; exact (nAt_rng _ 1).1) (by rw [e1]; exact (nAt_rng _ 1).2))
        have HX := Lib.hid (show build cellM (nAt (t0 :: (t1 :: tr))) 4 = ⟨4, a0, cm, 0, a2⟩ from by rw [hcm, e0, e1, e2]; rfl)
        have HTK := Lib.hid (fun (W : World) (hW : Below w3.heap.size w3 W) => HTX.out W hW 4)
        rw [HX.out] at HTK
        unfold encA cellsA at HTK
        dsimp only at HTK
        obtain ⟨TT, hTT⟩ : ∃ x, x = ba (textA ⟨4, a0, cm, 0, a2⟩) := ⟨_, rfl⟩
        rw [← hTT] at HTK
        have HOK := Lib.hid (show okM s (t0 :: (t1 :: tr)) 4 = decide (TT = s) from by
          unfold okM
          rw [HW0.out, HIS.out, HX.out, hTT, Bool.true_and, Bool.true_and, Bool.eq_iff_iff, decide_eq_true_eq, decide_eq_true_eq]
          exact ⟨fun h => ba_ext (by rw [ba_data]; exact h), fun h => by rw [← h, ba_data]⟩)
        clear hTT hcm e0 e1 e2 e3
        go_wp2_with fail
        have HBA := Lib.hid (show Below w3.heap.size w3 (wr.alloc (.cells #[.int .i64 4, .int .u64 0, .int .i64 0, .int .u64 0, .int .u64 0] 24)) from HB.out.alloc HB.out.size _)
        have hT0 : A4 ga a0 a1 a2 a3 (wr.alloc (.cells #[.int .i64 4, .int .u64 0, .int .i64 0, .int .u64 0, .int .u64 0] 24)).drew := HA.out _ HBA.out.drew
        refine till_reg2 (A4 ga a0 a1 a2 a3) (fun _ => True) 12 (by kernel_rfl) ?_
        refine Rr.take_T 0 (v := ?v40) rfl (by kernel_rfl) (by kernel_rfl) (by kernel_rfl) (by kernel_rfl) (fun _ _ _ h => h) hT0 (fun _ => trivial) (Or.inl ⟨by rfl, ?y40⟩) ?z40
        case y40 =>
          intro wz hz
          go_simp
          try with_reducible rfl
        case z40 =>
        try simp only [Act.put, List.setIfInBounds_toArray, List.set_cons_zero, List.set_cons_succ]
        refine Rr.take_T 1 (v := ?v41) rfl (by kernel_rfl) (by kernel_rfl) (by kernel_rfl) (by kernel_rfl) (fun _ _ _ h => h) hT0 (fun _ => trivial) (Or.inl ⟨by rfl, ?y41⟩) ?z41
        case y41 =>
          intro wz hz
          have hc : wz.cell? ⟨ga, 0, none⟩ = some (.int .u64 a0) := hz 0 _ rfl
          go_simp
          try with_reducible rfl
        case z41 =>
        try simp only [Act.put, List.setIfInBounds_toArray, List.set_cons_zero, List.set_cons_succ]
        refine Rr.take_T 2 (v := ?v42) rfl (by kernel_rfl) (by kernel_rfl) (by kernel_rfl) (by kernel_rfl) (fun _ _ _ h => h) hT0 (fun _ => trivial) (Or.inl ⟨by rfl, ?y42⟩) ?z42
        case y42 =>
          intro wz hz
          go_simp
          try with_reducible rfl
        case z42 =>
        try simp only [Act.put, List.setIfInBounds_toArray, List.set_cons_zero, List.set_cons_succ]
        refine Rr.take_T 3 (v := ?v43) rfl (by kernel_rfl) (by kernel_rfl) (by kernel_rfl) (by kernel_rfl) (fun _ _ _ h => h) hT0 (fun _ => trivial) (Or.inl ⟨by rfl, ?y43⟩) ?z43
        case y43 =>
          intro wz hz
          have hc : wz.cell? ⟨ga, 1, none⟩ = some (.int .u64 a1) := hz 1 _ rfl
          go_simp
          try with_reducible rfl
        case z43 =>
        try simp only [Act.put, List.setIfInBounds_toArray, List.set_cons_zero, List.set_cons_succ]
        refine Rr.take_T 5 (v := ?v45) rfl (by kernel_rfl) (by kernel_rfl) (by kernel_rfl) (by kernel_rfl) (fun _ _ _ h => h) hT0 (fun _ => trivial) (Or.inl ⟨by rfl, ?y45⟩) ?z45
        case y45 =>
          intro wz hz
          go_simp
          try with_reducible rfl
        case z45 =>
        try simp only [Act.put, List.setIfInBounds_toArray, List.set_cons_zero, List.set_cons_succ]
        refine Rr.take_T 6 (v := ?v46) rfl (by kernel_rfl) (by kernel_rfl) (by kernel_rfl) (by kernel_rfl) (fun _ _ _ h => h) hT0 (fun _ => trivial) (Or.inl ⟨by rfl, ?y46⟩) ?z46
        case y46 =>
          intro wz hz
          have hc : wz.cell? ⟨ga, 2, none⟩ = some (.int .u64 a2) := hz 2 _ rfl
          go_simp
          try with_reducible rfl
        case z46 =>
        try simp only [Act.put, List.setIfInBounds_toArray, List.set_cons_zero, List.set_cons_succ]
        refine Rr.take_T 7 (v := ?v47) rfl (by kernel_rfl) (by kernel_rfl) (by kernel_rfl) (by kernel_rfl) (fun _ _ _ h => h) hT0 (fun _ => trivial) (Or.inl ⟨by rfl, ?y47⟩) ?z47
        case y47 =>
          intro wz hz
          go_simp
          try with_reducible rfl
        case z47 =>
        try simp only [Act.put, List.setIfInBounds_toArray, List.set_cons_zero, List.set_cons_succ]
        refine Rr.till_all [4] (by kernel_rfl) (by simp) (List.forall_mem_cons.2 ⟨fun K hK => ?_, fun i hi => by cases hi⟩)
        refine Rr.op_at _ rfl ?_
        go_simp
        refine (HCL.out _).mono ?_
        rintro e w5 ⟨rfl, rfl⟩
        refine hK _ _ hT0 (fun _ => trivial) ?_
        clear hK K
        try simp only [Act.put, List.setIfInBounds_toArray, List.set_cons_zero, List.set_cons_succ]
        refine Rr.till_all [8] (by kernel_rfl) (by simp) (List.forall_mem_cons.2 ⟨fun K hK => ?_, fun i hi => by cases hi⟩)
        refine Rr.op_at _ rfl ?_
        go_simp
        refine hK _ _ (HA.out _ ((HB.out.alloc HB.out.size _).drew)) (fun _ => trivial) ?_
        clear hK K
        try simp only [Act.put, List.setIfInBounds_toArray, List.set_cons_zero, List.set_cons_succ]
        refine Rr.take_T 9 (v := ?v49) rfl (by kernel_rfl) (by kernel_rfl) (by kernel_rfl) (by kernel_rfl) (fun _ _ _ h => h) (HA.out _ ((HB.out.alloc HB.out.size _).drew)) (fun _ => trivial) (Or.inl ⟨by rfl, ?y49⟩) ?z49
        case y49 =>
          intro wz hz
          go_simp
          try with_reducible rfl
        case z49 =>
        try simp only [Act.put, List.setIfInBounds_toArray, List.set_cons_zero, List.set_cons_succ]
        refine Rr.till_all [10] (by kernel_rfl) (by simp) (List.forall_mem_cons.2 ⟨fun K hK => ?_, fun i hi => by cases hi⟩)
        refine Rr.op_at _ rfl ?_
        go_simp
        refine hK _ _ (HA.out _ ((HB.out.alloc HB.out.size _).drew)) (fun _ => trivial) ?_
        clear hK K
        try simp only [Act.put, List.setIfInBounds_toArray, List.set_cons_zero, List.set_cons_succ]
        refine Rr.take_T 11 (v := ?v411) rfl (by kernel_rfl) (by kernel_rfl) (by kernel_rfl) (by kernel_rfl) (fun _ _ _ h => h) (HA.out _ ((HB.out.alloc HB.out.size _).drew)) (fun _ => trivial) (Or.inl ⟨by rfl, ?y411⟩) ?z411
        case y411 =>
          intro wz hz
          go_simp
          try with_reducible rfl
        case z411 =>
        try simp only [Act.put, List.setIfInBounds_toArray, List.set_cons_zero, List.set_cons_succ]
        refine Rr.till_all [12] (by kernel_rfl) (by simp) (List.forall_mem_cons.2 ⟨fun K hK => ?_, fun i hi => by cases hi⟩)
        refine Rr.op_at _ rfl ?_
        go_simp
        refine hK _ _ (HA.out _ ((HB.out.alloc HB.out.size _).drew)) (fun _ => trivial) ?_
        clear hK K
        try simp only [Act.put, List.setIfInBounds_toArray, List.set_cons_zero, List.set_cons_succ]
        refine Rr.till_done (by kernel_rfl) ?_ _
        clear hT0
        go_wp2_with fail
        have HBX := Lib.hid (show Below w3.heap.size w3 ((wr.alloc (.cells #[.int .i64 4, .int .u64 a0, .int .i64 cm, .int .u64 0, .int .u64 a2] 24)).drew) from (HB.out.alloc HB.out.size _).drew)
        refine (HTK.out _ HBX.out).mono ?_
        rintro e w6 ⟨rfl, hb6⟩
        have HB6 := Lib.hid (HBX.out.trans (hb6.mono HBX.out.size))
        have HX6 := Lib.hid (show w6.heap[wr.heap.size]? = some (.cells #[.int .i64 4, .int .u64 a0, .int .i64 cm, .int .u64 0, .int .u64 a2] 24 (0, 0)) from (hb6.block wr.heap.size (by simp)).trans (heap_alloc_new wr _))
        clear hb6
        have x0 : w6.cell? ⟨wr.heap.size, 0, none⟩ = some (.int .i64 4) := cell_of1' HX6.out 0
        have x1 : w6.cell? ⟨wr.heap.size, 1, none⟩ = some (.int .u64 a0) := cell_of1' HX6.out 1
        have x2 : w6.cell? ⟨wr.heap.size, 2, none⟩ = some (.int .i64 cm) := cell_of1' HX6.out 2
        have x3 : w6.cell? ⟨wr.heap.size, 3, none⟩ = some (.int .u64 0) := cell_of1' HX6.out 3
        have x4 : w6.cell? ⟨wr.heap.size, 4, none⟩ = some (.int .u64 a2) := cell_of1' HX6.out 4
        by_cases hts : TT = s
        · have d1 : TT.toList = s.toList := by rw [hts]
          have HE := Lib.hid (readM_at (k := 4) (by decide) HNO.out (by rw [HOK.out, decide_eq_true hts]))
          rw [HX.out] at HE
          clear hts
          go_wp2_with (refine wpList_store_row rfl 24 _ _ rfl w.heap.size #[.int .i64 4, .int .u64 a0, .int .i64 cm, .int .u64 0, .int .u64 a2] rfl rfl 24 #[.int .i64 0, .int .u64 0, .int .i64 0, .int .u64 0, .int .u64 0] (HZ.out w6 HB6.out) infoA rfl (by simp [Value.oneCell']) ?_)
          exact ⟨rfl, _, ret_a rfl (setRow_heap _ _ _ _ _ _ (HZ.out w6 HB6.out)) rfl rfl, by rw [HE.out]; rfl, below_setRow (HBT.out w6 HB6.out) (Nat.le_refl _) _⟩
        · have d1 : ¬ (TT.toList == s.toList) = true := fun e => hts (by rw [toList_eq_iff] at e; exact of_decide_eq_true e)
          have HF := Lib.hid (show okM s (t0 :: (t1 :: tr)) 4 = false from by rw [HOK.out, decide_eq_false hts])
          clear hts
          go_wp2_with fail
          go_roundw
          case rel => exact ⟨5, by omega, by go_num, fun j hj => by
            by_cases e : j = 4
            · subst e; exact HF.out
            · exact HNO.out j (by omega), HB6.out⟩
          case measure => first | omega | (simp [intOf]; done) | (simp [intOf]; omega)
    · have hix := idx5 D0 D1 D2 D3 D4 D5 D6
      have HKW := Lib.hid (show kw 5 = D5.data.toList from by rw [hD5.out, ba_data])
      by_cases hd : D5 = t0
      rotate_left
      · have d0 : ¬ D5.toList = t0.toList := fun e => hd (ba_ext (by rw [← ByteArray.toList_eq, ← ByteArray.toList_eq]; exact e))
        have HF := Lib.hid (show okM s (t0 :: (t1 :: tr)) 5 = false from by
          unfold okM
          rw [decide_eq_false (show ¬ kw 5 = w0 (t0 :: (t1 :: tr)) from fun e => hd (ba_ext (by rw [← HKW.out, e]; rfl)))]
          rfl)
        clear hd
        go_wp2_with fail
        go_roundw
        case rel => exact ⟨6, by omega, by go_num, fun j hj => by
          by_cases e : j = 5
          · subst e; exact HF.out
          · exact HNO.out j (by omega), HB.out⟩
        case measure => first | omega | (simp [intOf]; done) | (simp [intOf]; omega)
      have d0 : D5.toList = t0.toList := by rw [hd]
      have HW0 := Lib.hid (show decide (kw 5 = w0 (t0 :: (t1 :: tr))) = true from decide_eq_true (by rw [HKW.out, hd]; rfl))
      clear hd
      cases is with
      | false =>
        have HF := Lib.hid (show okM s (t0 :: (t1 :: tr)) 5 = false from by unfold okM; rw [HIS.out, Bool.and_false]; rfl)
        go_wp2_with fail
        go_roundw
        case rel => exact ⟨6, by omega, by go_num, fun j hj => by
          by_cases e : j = 5
          · subst e; exact HF.out
          · exact HNO.out j (by omega), HB.out⟩
        case measure => first | omega | (simp [intOf]; done) | (simp [intOf]; omega)
      | true =>
        obtain ⟨e0, e1, e2, e3⟩ := HAV.out rfl
        obtain ⟨cm, hcm⟩ : ∃ x, x = cellM a0 := ⟨_, rfl⟩
        have HCL := Lib.hid (fun (W : World) => show Calls Tryd.prog 42 #[.int .u64 a0] W fun e w' => e = .returned (.int .i64 cm) ∧ w' = W from by rw [hcm]; exact cell_any W a0 (by rw [e0]; exact (nAt_rng _ 0).1) (by rw [e0]; exact (nAt_rng _ 0).2))
        have HX := Lib.hid (show build cellM (nAt (t0 :: (t1 :: tr))) 5 = ⟨5, 0, cm, 0, 0⟩ from by rw [hcm, e0]; rfl)
        have HTK := Lib.hid (fun (W : World) (hW : Below w3.heap.size w3 W) => HTX.out W hW 5)
        rw [HX.out] at HTK
        unfold encA cellsA at HTK
        dsimp only at HTK
        obtain ⟨TT, hTT⟩ : ∃ x, x = ba (textA ⟨5, 0, cm, 0, 0⟩) := ⟨_, rfl⟩
        rw [← hTT] at HTK
        have HOK := Lib.hid (show okM s (t0 :: (t1 :: tr)) 5 = decide (TT = s) from by
          unfold okM
          rw [HW0.out, HIS.out, HX.out, hTT, Bool.true_and, Bool.true_and, Bool.eq_iff_iff, decide_eq_true_eq, decide_eq_true_eq]
          exact ⟨fun h => ba_ext (by rw [ba_data]; exact h), fun h => by rw [← h, ba_data]⟩)
        clear hTT hcm e0 e1 e2 e3
        have ax0 : wr.cell? ⟨ga, 0, none⟩ = some (.int .u64 a0) := HA.out wr HB.out 0 _ rfl
        have hga2 : ga < wr.heap.size := by omega
        go_wp2_with fail
        refine (HCL.out _).mono ?_
        rintro e w5 ⟨rfl, rfl⟩
        go_wp2_with fail
        clear ax0
        have HBX := Lib.hid (show Below w3.heap.size w3 (wr.alloc (.cells #[.int .i64 5, .int .u64 0, .int .i64 cm, .int .u64 0, .int .u64 0] 24)) from HB.out.alloc HB.out.size _)
        refine (HTK.out _ HBX.out).mono ?_
        rintro e w6 ⟨rfl, hb6⟩
        have HB6 := Lib.hid (HBX.out.trans (hb6.mono HBX.out.size))
        have HX6 := Lib.hid (show w6.heap[wr.heap.size]? = some (.cells #[.int .i64 5, .int .u64 0, .int .i64 cm, .int .u64 0, .int .u64 0] 24 (0, 0)) from (hb6.block wr.heap.size (by simp)).trans (heap_alloc_new wr _))
        clear hb6
        have x0 : w6.cell? ⟨wr.heap.size, 0, none⟩ = some (.int .i64 5) := cell_of1' HX6.out 0
        have x1 : w6.cell? ⟨wr.heap.size, 1, none⟩ = some (.int .u64 0) := cell_of1' HX6.out 1
        have x2 : w6.cell? ⟨wr.heap.size, 2, none⟩ = some (.int .i64 cm) := cell_of1' HX6.out 2
        have x3 : w6.cell? ⟨wr.heap.size, 3, none⟩ = some (.int .u64 0) := cell_of1' HX6.out 3
        have x4 : w6.cell? ⟨wr.heap.size, 4, none⟩ = some (.int .u64 0) := cell_of1' HX6.out 4
        by_cases hts : TT = s
        · have d1 : TT.toList = s.toList := by rw [hts]
          have HE := Lib.hid (readM_at (k := 5) (by decide) HNO.out (by rw [HOK.out, decide_eq_true hts]))
          rw [HX.out] at HE
          clear hts
          go_wp2_with (refine wpList_store_row rfl 24 _ _ rfl w.heap.size #[.int .i64 5, .int .u64 0, .int .i64 cm, .int .u64 0, .int .u64 0] rfl rfl 24 #[.int .i64 0, .int .u64 0, .int .i64 0, .int .u64 0, .int .u64 0] (HZ.out w6 HB6.out) infoA rfl (by simp [Value.oneCell']) ?_)
          exact ⟨rfl, _, ret_a rfl (setRow_heap _ _ _ _ _ _ (HZ.out w6 HB6.out)) rfl rfl, by rw [HE.out]; rfl, below_setRow (HBT.out w6 HB6.out) (Nat.le_refl _) _⟩
        · have d1 : ¬ (TT.toList == s.toList) = true := fun e => hts (by rw [toList_eq_iff] at e; exact of_decide_eq_true e)
          have HF := Lib.hid (show okM s (t0 :: (t1 :: tr)) 5 = false from by rw [HOK.out, decide_eq_false hts])
          clear hts
          go_wp2_with fail
          go_roundw
          case rel => exact ⟨6, by omega, by go_num, fun j hj => by
            by_cases e : j = 5
            · subst e; exact HF.out
            · exact HNO.out j (by omega), HB6.out⟩
          case measure => first | omega | (simp [intOf]; done) | (simp [intOf]; omega)
    · have hix := idx6 D0 D1 D2 D3 D4 D5 D6
      have HKW := Lib.hid (show kw 6 = D6.data.toList from by rw [hD6.out, ba_data])
      by_cases hd : D6 = t0
      rotate_left
      · have d0 : ¬ D6.toList = t0.toList := fun e => hd (ba_ext (by rw [← ByteArray.toList_eq, ← ByteArray.toList_eq]; exact e))
        have HF := Lib.hid (show okM s (t0 :: (t1 :: tr)) 6 = false from by
          unfold okM
          rw [decide_eq_false (show ¬ kw 6 = w0 (t0 :: (t1 :: tr)) from fun e => hd (ba_ext (by rw [← HKW.out, e]; rfl)))]
          rfl)
        clear hd
        go_wp2_with fail
        go_roundw
        case rel => exact ⟨7, by omega, by go_num, fun j hj => by
          by_cases e : j = 6
          · subst e; exact HF.out
          · exact HNO.out j (by omega), HB.out⟩
        case measure => first | omega | (simp [intOf]; done) | (simp [intOf]; omega)
      have d0 : D6.toList = t0.toList := by rw [hd]
      have HW0 := Lib.hid (show decide (kw 6 = w0 (t0 :: (t1 :: tr))) = true from decide_eq_true (by rw [HKW.out, hd]; rfl))
      clear hd
      cases is with
      | false =>
        have HF := Lib.hid (show okM s (t0 :: (t1 :: tr)) 6 = false from by unfold okM; rw [HIS.out, Bool.and_false]; rfl)
        go_wp2_with fail
        go_roundw
        case rel => exact ⟨7, by omega, by go_num, fun j hj => by
          by_cases e : j = 6
          · subst e; exact HF.out
          · exact HNO.out j (by omega), HB.out⟩
        case measure => first | omega | (simp [intOf]; done) | (simp [intOf]; omega)
      | true =>
        obtain ⟨e0, e1, e2, e3⟩ := HAV.out rfl
        have HX := Lib.hid (show build cellM (nAt (t0 :: (t1 :: tr))) 6 = ⟨6, a0, 0, 0, 0⟩ from by rw [e0]; rfl)
        have HTK := Lib.hid (fun (W : World) (hW : Below w3.heap.size w3 W) => HTX.out W hW 6)
        rw [HX.out] at HTK
        unfold encA cellsA at HTK
        dsimp only at HTK
        obtain ⟨TT, hTT⟩ : ∃ x, x = ba (textA ⟨6, a0, 0, 0, 0⟩) := ⟨_, rfl⟩
        rw [← hTT] at HTK
        have HOK := Lib.hid (show okM s (t0 :: (t1 :: tr)) 6 = decide (TT = s) from by
          unfold okM
          rw [HW0.out, HIS.out, HX.out, hTT, Bool.true_and, Bool.true_and, Bool.eq_iff_iff, decide_eq_true_eq, decide_eq_true_eq]
          exact ⟨fun h => ba_ext (by rw [ba_data]; exact h), fun h => by rw [← h, ba_data]⟩)
        clear hTT e0 e1 e2 e3
        have ax0 : wr.cell? ⟨ga, 0, none⟩ = some (.int .u64 a0) := HA.out wr HB.out 0 _ rfl
        have hga2 : ga < wr.heap.size := by omega
        go_wp2_with fail
        clear ax0
        have HBX := Lib.hid (show Below w3.heap.size w3 (wr.alloc (.cells #[.int .i64 6, .int .u64 a0, .int .i64 0, .int .u64 0, .int .u64 0] 24)) from HB.out.alloc HB.out.size _)
        refine (HTK.out _ HBX.out).mono ?_
        rintro e w6 ⟨rfl, hb6⟩
        have HB6 := Lib.hid (HBX.out.trans (hb6.mono HBX.out.size))
        have HX6 := Lib.hid (show w6.heap[wr.heap.size]? = some (.cells #[.int .i64 6, .int .u64 a0, .int .i64 0, .int .u64 0, .int .u64 0] 24 (0, 0)) from (hb6.block wr.heap.size (by simp)).trans (heap_alloc_new wr _))
        clear hb6
        have x0 : w6.cell? ⟨wr.heap.size, 0, none⟩ = some (.int .i64 6) := cell_of1' HX6.out 0
        have x1 : w6.cell? ⟨wr.heap.size, 1, none⟩ = some (.int .u64 a0) := cell_of1' HX6.out 1
        have x2 : w6.cell? ⟨wr.heap.size, 2, none⟩ = some (.int .i64 0) := cell_of1' HX6.out 2
        have x3 : w6.cell? ⟨wr.heap.size, 3, none⟩ = some (.int .u64 0) := cell_of1' HX6.out 3
        have x4 : w6.cell? ⟨wr.heap.size, 4, none⟩ = some (.int .u64 0) := cell_of1' HX6.out 4
        by_cases hts : TT = s
        · have d1 : TT.toList = s.toList := by rw [hts]
          have HE := Lib.hid (readM_at (k := 6) (by decide) HNO.out (by rw [HOK.out, decide_eq_true hts]))
          rw [HX.out] at HE
          clear hts
          go_wp2_with (refine wpList_store_row rfl 24 _ _ rfl w.heap.size #[.int .i64 6, .int .u64 a0, .int .i64 0, .int .u64 0, .int .u64 0] rfl rfl 24 #[.int .i64 0, .int .u64 0, .int .i64 0, .int .u64 0, .int .u64 0] (HZ.out w6 HB6.out) infoA rfl (by simp [Value.oneCell']) ?_)
          exact ⟨rfl, _, ret_a rfl (setRow_heap _ _ _ _ _ _ (HZ.out w6 HB6.out)) rfl rfl, by rw [HE.out]; rfl, below_setRow (HBT.out w6 HB6.out) (Nat.le_refl _) _⟩
        · have d1 : ¬ (TT.toList == s.toList) = true := fun e => hts (by rw [toList_eq_iff] at e; exact of_decide_eq_true e)
          have HF := Lib.hid (show okM s (t0 :: (t1 :: tr)) 6 = false from by rw [HOK.out, decide_eq_false hts])
          clear hts
          go_wp2_with fail
          go_roundw
          case rel => exact ⟨7, by omega, by go_num, fun j hj => by
            by_cases e : j = 6
            · subst e; exact HF.out
            · exact HNO.out j (by omega), HB6.out⟩
          case measure => first | omega | (simp [intOf]; done) | (simp [intOf]; omega)
theorem read_any (w : World) (s : ByteArray) (hs : s.size ≤ 1000) (hv : Av w) : Calls Tryd.prog 9 #[.string s] w fun e w' => e = .returned (.tuple #[encA (readM s (Pt.parts 32 s)).1, .int .i64 (readM s (Pt.parts 32 s)).2]) ∧ Below w.heap.size w w' := by
  cases hq : Pt.parts 32 s with
  | nil =>
    have := Pt.parts_data 32 s
    rw [hq] at this
    exact absurd this.symm (Tx.sp_ne 32 _)
  | cons t0 ts =>
    rw [← hq]
    cases ts with
    | nil => exact read_nil w s hs hv t0 hq
    | cons t1 tr => exact read_cons w s hs hv t0 t1 tr hq
end Go.Proofs.YtdibkhddhgaghaaDoor.Ac
