/- act.numbers: the walk. -/
import Derived.Outline
import Derived.Test.YtdibkhddhgaghaaDoorActTextR
import Derived.Laws.Tables
import Derived.Laws.CopyOwn
import Derived.Laws.EntriesVeiled
namespace Go.Proofs.YtdibkhddhgaghaaDoor.Ac
open Go.RowKit
set_option linter.unusedVariables false
set_option linter.unusedSimpArgs false
theorem rng_below {w w' : World} (h : DgW.Rng w) (hb : Below w.heap.size w w') : DgW.Rng w' := by
  obtain ⟨ev, h1, h2⟩ := h
  exact ⟨ev, (hb.cell (p := ⟨8, 0, none⟩) (World.block_lt_of_cell? w _ h1)).trans h1, h2⟩
def tv (ts : List ByteArray) (i : Nat) : Int := match ts[i]? with | some t => wV t | none => 0
def av (ts : List ByteArray) (k i : Nat) : Int := if i < k then tv ts i else 0
def all4 (ts : List ByteArray) : Bool := ts.all wOk && decide (ts.length ≤ 4)
theorem tv_at {ts : List ByteArray} {i : Nat} {t : ByteArray} (h : ts[i]? = some t) : tv ts i = wV t := by unfold tv; rw [h]
theorem tv_tail (ws : List ByteArray) (i : Nat) : tv ws.tail i = nAt ws i := by
  unfold tv nAt
  rw [List.getElem?_tail]
  cases ws[i + 1]? <;> rfl
theorem all4_bad {ts : List ByteArray} {i : Nat} {t : ByteArray} (h : ts[i]? = some t) (hw : wOk t = false) : all4 ts = false := by
  unfold all4
  have : ts.all wOk = false := by
    rw [List.all_eq_false]
    exact ⟨t, List.mem_of_getElem? h, by rw [hw]; simp⟩
  rw [this]; rfl
theorem av_end {ts : List ByteArray} (i : Nat) : av ts ts.length i = tv ts i := by
  unfold av
  split
  · rfl
  · rename_i h
    unfold tv
    rw [List.getElem?_eq_none (by omega)]
theorem setc {w : World} {b : Nat} {cs : Array Value} {T : TypeId} (h : w.heap[b]? = some (.cells cs T (0, 0))) (i : Nat) (u : Value) : (w.setCell ⟨b, i, none⟩ u).heap[b]? = some (.cells (cs.setIfInBounds i u) T (0, 0)) := by
  simp [World.setCell, Array.getElem?_modify, h]
theorem froz {w : World} {g : Nat} {cs : Array Value} {T : TypeId} (h : w.heap[g]? = some (.cells cs T (0, 0))) (i : Nat) : w.frozen? ⟨g, i, none⟩ = false := by
  simp [World.frozen?, h]
theorem ret_arr {fn : Func} (hf : fn.results = #[.cell 2 72, .tmp 3]) {w : World} {b : Nat} {cs : Array Value} (h : w.heap[b]? = some (.cells cs 72 (0, 0))) (hcs : cs.size = 4) {tmps : Array Value} (hp : tmps.getD 2 undef = .pointer (some ⟨b, 0, none⟩)) :
    (results fn tmps).run Tryd.prog w = .ok (.tuple #[.agg cs, tmps.getD 3 undef]) w := by
  rw [results_cell_tmp hf, hp]
  have hi : (Tryd.prog.info? 72).map (·.size) = some cs.size := by rw [hcs]; kernel_rfl
  simp [asAddr, run_loadVar_row w b 72 72 cs (0, 0) _ h Tryd.underlying72 rfl hi]
set_option maxRecDepth 100000 in
set_option maxHeartbeats 16000000 in
theorem numbers_any (w : World) (A : Option Addr) (cap : Nat) (ts : List ByteArray) (hcells : ∀ (j : Nat) t, ts[j]? = some t → ∃ b o, A = some ⟨b, o, none⟩ ∧ b < w.heap.size ∧ w.cell? ⟨b, o + j, none⟩ = some (.string t)) (hsz : ∀ t ∈ ts, t.size ≤ 1000000) (hl : ts.length ≤ 1000000) (hr : DgW.Rng w) :
    Calls Tryd.prog 41 #[.slice A ts.length cap] w fun e w' => ∃ a0 a1 a2 a3 : Int, e = .returned (.tuple #[.agg #[.int .u64 a0, .int .u64 a1, .int .u64 a2, .int .u64 a3], .bool (all4 ts)]) ∧ (all4 ts = true → a0 = tv ts 0 ∧ a1 = tv ts 1 ∧ a2 = tv ts 2 ∧ a3 = tv ts 3) ∧ Below w.heap.size w w' := by
  have HCE := Lib.hid hcells
  have HSZ := Lib.hid hsz
  have HRG := Lib.hid hr
  clear hcells hsz hr
  go_enter Tryd.func41, Tryd.ntmps41
  go_wp2_with fail
  obtain ⟨w4, hw4⟩ : ∃ W, W = (w.alloc (.cells #[.int .u64 0, .int .u64 0, .int .u64 0, .int .u64 0] 72)).alloc (.cells #[.int .u64 0, .int .u64 0, .int .u64 0, .int .u64 0] 72) := ⟨_, rfl⟩
  have HB4 := Lib.hid (show Below w.heap.size w w4 from by rw [hw4]; exact ((Below.refl _ _).alloc (Nat.le_refl _) _).alloc (by simp) _)
  have HG := Lib.hid (show w4.heap[w.heap.size]? = some (.cells #[.int .u64 0, .int .u64 0, .int .u64 0, .int .u64 0] 72 (0, 0)) from by rw [hw4]; exact (Below.heap_alloc _ _ _ (by simp)).trans (heap_alloc_new w _))
  have HQ := Lib.hid (show w4.heap[w.heap.size + 1]? = some (.cells #[.int .u64 (av ts 0 0), .int .u64 (av ts 0 1), .int .u64 (av ts 0 2), .int .u64 (av ts 0 3)] 72 (0, 0)) from by
    rw [hw4, show w.heap.size + 1 = (w.alloc (.cells #[.int .u64 0, .int .u64 0, .int .u64 0, .int .u64 0] 72)).heap.size by simp]
    exact heap_alloc_new _ _)
  rw [← hw4]
  clear hw4
  go_loopw [11] (fun i wr => ∃ k : Nat, k ≤ ts.length ∧ k ≤ 4 ∧ i = .int .i64 k ∧ (∀ j t, j < k → ts[j]? = some t → wOk t = true) ∧ wr.heap[w.heap.size]? = some (.cells #[.int .u64 0, .int .u64 0, .int .u64 0, .int .u64 0] 72 (0, 0)) ∧ wr.heap[w.heap.size + 1]? = some (.cells #[.int .u64 (av ts k 0), .int .u64 (av ts k 1), .int .u64 (av ts k 2), .int .u64 (av ts k 3)] 72 (0, 0)) ∧ Below w.heap.size w wr) (fun i _ => ts.length - (intOf i).toNat)
  case atStart => exact ⟨0, Nat.zero_le _, Nat.zero_le _, rfl, fun j t h => absurd h (Nat.not_lt_zero j), HG.out, HQ.out, HB4.out⟩
  case round =>
    obtain ⟨k, hk, hk4, rfl, hok, hg, hq, hB⟩ := hrel
    have HOK := Lib.hid hok
    have HGk := Lib.hid hg
    have HQk := Lib.hid hq
    have HB := Lib.hid hB
    clear hok hg hq hB
    by_cases hlt : k < ts.length
    · obtain ⟨t, ht⟩ : ∃ t, ts[k]? = some t := ⟨_, List.getElem?_eq_getElem hlt⟩
      obtain ⟨b, o, rfl, hbl, hc⟩ := HCE.out k t ht
      have s1 : wr.cell? ⟨b, o + k, none⟩ = some (.string t) := (HB.out.cell (p := ⟨b, o + k, none⟩) hbl).trans hc
      have HT := Lib.hid ht
      have HTV := Lib.hid (tv_at ht)
      have HW := Lib.hid (show Calls Tryd.prog 83 #[.string t] wr fun e w' => e = .returned (.tuple #[.int .u64 (wV t), .int .i64 (Dg.word t.data.toList).2]) ∧ Below wr.heap.size wr w' from DgW.word_any t (by have := HSZ.out t (List.mem_of_getElem? ht); omega) wr (rng_below HRG.out HB.out))
      obtain ⟨eu, heu⟩ : ∃ x, x = (Dg.word t.data.toList).2 := ⟨_, rfl⟩
      obtain ⟨vu, hvu⟩ : ∃ x, x = wV t := ⟨_, rfl⟩
      rw [← heu, ← hvu] at HW
      rw [← hvu] at HTV
      have HWO := Lib.hid (show wOk t = decide (eu = 0) from by unfold wOk; rw [← heu])
      clear ht hc heu hvu
      go_wp2_with fail
      refine HW.out.mono ?_
      rintro e w5 ⟨rfl, hb5⟩
      have hl0 : w.heap.size + 1 < wr.heap.size := lt_of_block HQk.out
      have HG5 := Lib.hid ((hb5.block w.heap.size (by omega)).trans HGk.out)
      have HQ5 := Lib.hid ((hb5.block (w.heap.size + 1) hl0).trans HQk.out)
      have HB5 := Lib.hid (HB.out.trans (hb5.mono HB.out.size))
      clear hb5 s1
      have q0 : w5.cell? ⟨w.heap.size + 1, 0, none⟩ = some (.int .u64 (av ts k 0)) := cell_of1' HQ5.out 0
      have q1 : w5.cell? ⟨w.heap.size + 1, 1, none⟩ = some (.int .u64 (av ts k 1)) := cell_of1' HQ5.out 1
      have q2 : w5.cell? ⟨w.heap.size + 1, 2, none⟩ = some (.int .u64 (av ts k 2)) := cell_of1' HQ5.out 2
      have q3 : w5.cell? ⟨w.heap.size + 1, 3, none⟩ = some (.int .u64 (av ts k 3)) := cell_of1' HQ5.out 3
      by_cases he : eu = 0
      · subst he
        by_cases h4 : k < 4
        · have b3 : decide ((3 : Int) < k) = false := decide_eq_false (by omega)
          have c0 : w5.cell? ⟨w.heap.size + 1, k, none⟩ = some (.int .u64 (av ts k k)) := by
            have : k = 0 ∨ k = 1 ∨ k = 2 ∨ k = 3 := by omega
            rcases this with rfl | rfl | rfl | rfl
            · exact q0
            · exact q1
            · exact q2
            · exact q3
          have z0 := froz HQ5.out k
          clear q0 q1 q2 q3
          go_wp2_with fail
          go_roundw
          case rel =>
            refine ⟨k + 1, by omega, by omega, by go_num, fun j t' hj ht' => ?_, (Below.heap_setCell w5 ⟨w.heap.size + 1, k, none⟩ _ w.heap.size (by simp)).trans HG5.out, ?_, HB5.out.setCell (p := ⟨w.heap.size + 1, k, none⟩) (by show w.heap.size ≤ w.heap.size + 1; omega) _⟩
            · by_cases hj2 : j = k
              · subst hj2
                rw [HT.out] at ht'
                injection ht' with ht'
                rw [← ht', HWO.out]; rfl
              · exact HOK.out j t' (by omega) ht'
            · have := setc HQ5.out k (.int .u64 vu)
              rw [this]
              have hv := HTV.out
              have : k = 0 ∨ k = 1 ∨ k = 2 ∨ k = 3 := by omega
              rcases this with rfl | rfl | rfl | rfl <;> simp [av, ← hv]
          case measure => first | omega | (simp [intOf]; done) | (simp [intOf]; omega)
        · have b3 : decide ((3 : Int) < k) = true := decide_eq_true (by omega)
          have HF := Lib.hid (show all4 ts = false from by unfold all4; rw [decide_eq_false (show ¬ ts.length ≤ 4 by omega), Bool.and_false])
          go_wp2_with (refine wpList_store_row rfl 72 _ _ rfl w.heap.size #[.int .u64 (av ts k 0), .int .u64 (av ts k 1), .int .u64 (av ts k 2), .int .u64 (av ts k 3)] rfl rfl 72 #[.int .u64 0, .int .u64 0, .int .u64 0, .int .u64 0] HG5.out (by kernel_rfl) rfl (by simp [Value.oneCell']) ?_)
          exact ⟨rfl, _, ret_arr rfl (setRow_heap _ _ _ _ _ _ HG5.out) rfl rfl, _, _, _, _, by rw [HF.out]; rfl, fun h => (by rw [HF.out] at h; cases h), below_setRow HB5.out (Nat.le_refl _) _⟩
      · have hne : (eu != 0) = true := by simpa using he
        have HF := Lib.hid (all4_bad HT.out (by rw [HWO.out]; exact decide_eq_false he))
        clear he
        go_wp2_with (refine wpList_store_row rfl 72 _ _ rfl w.heap.size #[.int .u64 (av ts k 0), .int .u64 (av ts k 1), .int .u64 (av ts k 2), .int .u64 (av ts k 3)] rfl rfl 72 #[.int .u64 0, .int .u64 0, .int .u64 0, .int .u64 0] HG5.out (by kernel_rfl) rfl (by simp [Value.oneCell']) ?_)
        exact ⟨rfl, _, ret_arr rfl (setRow_heap _ _ _ _ _ _ HG5.out) rfl rfl, _, _, _, _, by rw [HF.out]; rfl, fun h => (by rw [HF.out] at h; cases h), below_setRow HB5.out (Nat.le_refl _) _⟩
    · have hke : k = ts.length := by omega
      subst hke
      have HF := Lib.hid (show all4 ts = true from by
        unfold all4
        rw [decide_eq_true hk4, Bool.and_true, List.all_eq_true]
        intro t ht
        obtain ⟨j, hj⟩ := List.mem_iff_getElem?.1 ht
        exact HOK.out j t (List.getElem?_eq_some_iff.1 hj).1 hj)
      have q0 : wr.cell? ⟨w.heap.size + 1, 0, none⟩ = some (.int .u64 (av ts ts.length 0)) := cell_of1' HQk.out 0
      have q1 : wr.cell? ⟨w.heap.size + 1, 1, none⟩ = some (.int .u64 (av ts ts.length 1)) := cell_of1' HQk.out 1
      have q2 : wr.cell? ⟨w.heap.size + 1, 2, none⟩ = some (.int .u64 (av ts ts.length 2)) := cell_of1' HQk.out 2
      have q3 : wr.cell? ⟨w.heap.size + 1, 3, none⟩ = some (.int .u64 (av ts ts.length 3)) := cell_of1' HQk.out 3
      go_wp2_with (refine wpList_store_row rfl 72 _ _ rfl w.heap.size #[.int .u64 (av ts ts.length 0), .int .u64 (av ts ts.length 1), .int .u64 (av ts ts.length 2), .int .u64 (av ts ts.length 3)] rfl rfl 72 #[.int .u64 0, .int .u64 0, .int .u64 0, .int .u64 0] HGk.out (by kernel_rfl) rfl (by simp [Value.oneCell']) ?_)
      exact ⟨rfl, _, ret_arr rfl (setRow_heap _ _ _ _ _ _ HGk.out) rfl rfl, _, _, _, _, by rw [HF.out]; rfl, fun _ => ⟨av_end 0, av_end 1, av_end 2, av_end 3⟩, below_setRow HB.out (Nat.le_refl _) _⟩
end Go.Proofs.YtdibkhddhgaghaaDoor.Ac
