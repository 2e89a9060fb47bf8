/- ref09.Read: the walk. -/
import Derived.Outline
import Derived.Test.YtdibkhddhgaghaaDoorActRead
import Derived.Test.YtdibkhddhgaghaaDoorActTextR
import Derived.Test.YtdibkhddhgaghaaDoorPartsW
import Derived.Test.YtdibkhddhgaghaaDoorRDig2
namespace Go.Proofs.YtdibkhddhgaghaaDoor.Ac
open Go.RowKit
set_option linter.unusedVariables false
set_option linter.unusedSimpArgs false
theorem rrow_cell {w : World} {base : Nat} {e : TypeId} {g n cap : Nat} {xs : List Value} (h : w.ownsRow base e 1 (.slice (some ⟨g, 0, none⟩) n cap) n xs) : g < w.heap.size ∧ ∀ j u, xs[j]? = some u → w.cell? ⟨g, j, none⟩ = some u :=
  ⟨(h.lt g rfl).2, fun j u hu => by
    have := World.ownsRow.cells h (g := g) rfl j u hu
    cases j <;> simpa [Addr.add] using this⟩
theorem infoU8 : (Tryd.prog.info? 22).map (fun i => (i.zero, i.size, i.bytes)) = some (some (.int .u64 0), 1, 8) := by kernel_rfl
def nsv (l : List Int) : List Value := l.map (Value.int .u64)
def slen (v : Value) : Nat := match v with | .slice _ n _ => n | _ => 0
theorem slen_own {w : World} {base : Nat} {e : TypeId} {size n : Nat} {v : Value} {xs : List Value} (h : w.ownsRow base e size v n xs) : slen v = n := by
  obtain ⟨_, ⟨rfl, rfl⟩ | ⟨g, cap, cur, rfl, _⟩⟩ := h <;> rfl
theorem nums_at (t0 : ByteArray) (ts : List ByteArray) (m j : Nat) (h : j < (ts.map wV ++ List.replicate m 0).length) : (ts.map wV ++ List.replicate m (0 : Int))[j]? = some (nAt (t0 :: ts) j) := by
  unfold nAt
  rw [List.getElem?_cons_succ]
  by_cases hj : j < ts.length
  · rw [List.getElem?_append_left (by simpa using hj), List.getElem?_map, List.getElem?_eq_getElem hj]; rfl
  · rw [List.getElem?_append_right (by simpa using hj), List.getElem?_eq_none (Nat.le_of_not_lt hj)]
    simp only [List.length_append, List.length_map, List.length_replicate] at h
    simp only [List.length_map]
    rw [List.getElem?_replicate, if_pos (by omega)]
theorem readR_at {s : ByteArray} {ws : List ByteArray} {k : Nat} (ha : allW ws = true) (hk : k < 7) (h : ∀ j, j < k → okR s ws j = false) (hp : okR s ws k = true) : readR s ws = (build cellR (nAt ws) k, 0) := by unfold readR; rw [if_pos ha, find_at hk h hp]
theorem readR_none {s : ByteArray} {ws : List ByteArray} (ha : allW ws = true) (h : ∀ j, j < 7 → okR s ws j = false) : readR s ws = (zeroA, 3) := by unfold readR; rw [if_pos ha, find_none h]
theorem readR_word {s : ByteArray} {ws : List ByteArray} (ha : allW ws = false) : readR s ws = (zeroA, 3) := by unfold readR; rw [ha]; rfl
theorem buildR_lo (ws : List ByteArray) (k : Nat) : -9223372036854775808 ≤ (build cellR (nAt ws) k).cell := by
  have h : ∀ z : Int, 0 ≤ z → -1 ≤ cellR z := fun z hz => by unfold cellR; split <;> omega
  have h0 := h _ (nAt_rng ws 0).1
  have h1 := h _ (nAt_rng ws 1).1
  unfold build zeroA
  split <;> (dsimp only; omega)
theorem strs_at (l : List ByteArray) (j : Nat) (t : ByteArray) (h : l[j]? = some t) : (Pt.strs' l)[j]? = some (.string t) := by unfold Pt.strs'; rw [List.getElem?_map, h]; rfl

set_option maxRecDepth 100000 in
set_option maxHeartbeats 32000000 in
theorem rread_any (w : World) (s : ByteArray) (hs : s.size ≤ 1000) : Calls Tryd.prog 10 #[.string s] w fun e w' => e = .returned (.tuple #[encA (readR s (Pt.parts 32 s)).1, .int .i64 (readR s (Pt.parts 32 s)).2]) ∧ Below w.heap.size w w' := by
  obtain ⟨i0, hi, hz0, hz1, hz2⟩ := Pt.info_parts' infoU8
  have HSP := Lib.hid (fun W => show Calls Tryd.prog 43 #[.string s, .int .u8 32] W fun e w' => ∃ v, e = .returned v ∧ w'.ownsRow W.heap.size 9 1 v (Pt.parts 32 s).length (Pt.strs' (Pt.parts 32 s)) ∧ Below W.heap.size W w' from Pt.parts_any W s 32 (by omega))
  have hsml : ∀ t ∈ Pt.parts 32 s, t.size ≤ 1000 := fun t ht => by
    have h1 : t.data.toList ∈ (Pt.parts 32 s).map (·.data.toList) := List.mem_map_of_mem ht
    rw [Pt.parts_data] at h1
    have := sp_le 32 s.data.toList _ h1
    have e1 := Pt.size_list t
    have e2 := Pt.size_list s
    omega
  have hwl : (Pt.parts 32 s).length ≤ 1001 := by
    have h2 := Pt.pt_len 32 s (s.size + 1)
    rw [Pt.pt_end] at h2
    omega
  have hpos : Pt.parts 32 s ≠ [] := fun e => by
    have := Pt.parts_data 32 s
    rw [e] at this
    exact Tx.sp_ne 32 _ this.symm
  generalize Pt.parts 32 s = ws at *
  obtain ⟨t0, ts, rfl⟩ : ∃ t0 ts, ws = t0 :: ts := by
    cases ws with
    | nil => exact absurd rfl hpos
    | cons t ts => exact ⟨t, ts, rfl⟩
  clear hpos
  have HSZ := Lib.hid hsml
  have hlt : ts.length ≤ 1000 := by simp only [List.length_cons] at hwl; omega
  clear hsml hwl
  go_enter Tryd.func10, Tryd.ntmps10
  go_wp2_with fail
  refine (HSP.out _).mono ?_
  rintro e w2 ⟨lv, rfl, hown, hb⟩
  obtain ⟨gl, cl, rfl⟩ := pos_s hown (by simp)
  have HLC := Lib.hid (rrow_cell hown)
  have HB2 := Lib.hid (show Below w.heap.size w w2 from ((Below.refl _ _).alloc (Nat.le_refl _) _).trans (hb.mono (by simp)))
  have HZ2 := Lib.hid (show w2.heap[w.heap.size]? = some (.cells #[.int .i64 0, .int .u64 0, .int .i64 0, .int .u64 0, .int .u64 0] 24 (0, 0)) from (hb.block w.heap.size (by simp)).trans (heap_alloc_new w _))
  have HBT := Lib.hid (show ∀ W, Below w2.heap.size w2 W → Below w.heap.size w W from fun W hW => HB2.out.trans (hW.mono HB2.out.size))
  have HZ := Lib.hid (show ∀ W, Below w2.heap.size w2 W → W.heap[w.heap.size]? = some (.cells #[.int .i64 0, .int .u64 0, .int .i64 0, .int .u64 0, .int .u64 0] 24 (0, 0)) from fun W hW => (hW.block w.heap.size (lt_of_block HZ2.out)).trans HZ2.out)
  clear hown hb
  go_wp2_with fail
  go_loopw [5, 6] (fun ov i wr => ∃ k : Nat, k ≤ ts.length ∧ i = .int .i64 ((k : Int) + 1) ∧ (∀ j t, j < k → ts[j]? = some t → wOk t = true) ∧ wr.ownsRow w2.heap.size 22 1 ov k (nsv ((ts.take k).map wV)) ∧ Below w2.heap.size w2 wr) (fun _ i _ => ts.length + 1 - (intOf i).toNat)
  case atStart => exact ⟨0, Nat.zero_le _, rfl, fun j t h => absurd h (Nat.not_lt_zero j), World.ownsRow_lit (base := w2.heap.size) (e := 22) (size := 1) w2 #[] 0 (Nat.le_refl _) (by decide) rfl, (Below.refl _ _).alloc (Nat.le_refl _) _⟩
  case round =>
    obtain ⟨k, hk, rfl, hok, hrow, hB⟩ := hrel
    obtain ⟨OA, OC, rfl⟩ := shape_s hrow
    have HOK := Lib.hid hok
    have HR := Lib.hid hrow
    have HB := Lib.hid hB
    have hsz := hB.size
    clear hok hB
    by_cases hkl : k < ts.length
    · obtain ⟨t, ht⟩ : ∃ t, ts[k]? = some t := ⟨_, List.getElem?_eq_getElem hkl⟩
      have HT := Lib.hid ht
      have s1 : wr.cell? ⟨gl, k + 1, none⟩ = some (.string t) := (HB.out.cell (p := ⟨gl, k + 1, none⟩) HLC.out.1).trans (HLC.out.2 (k + 1) _ (strs_at _ _ _ (by rw [List.getElem?_cons_succ]; exact ht)))
      have HW := Lib.hid (show Calls Tryd.prog 44 #[.string t] wr fun e w' => e = .returned (.tuple #[.int .u64 (wV t), .int .i64 (Dg.word t.data.toList).2]) ∧ wr = w' from DgR.word_any t (by have := HSZ.out t (List.mem_cons_of_mem _ (List.mem_of_getElem? ht)); omega) wr)
      obtain ⟨eu, heu⟩ : ∃ x, x = (Dg.word t.data.toList).2 := ⟨_, rfl⟩
      obtain ⟨vu, hvu⟩ : ∃ x, x = wV t := ⟨_, rfl⟩
      rw [← heu, ← hvu] at HW
      have HV := Lib.hid hvu
      have HWO := Lib.hid (show wOk t = decide (eu = 0) from by unfold wOk; rw [← heu])
      have hgl : gl < wr.heap.size := Nat.lt_of_lt_of_le HLC.out.1 hsz
      clear ht heu hvu
      by_cases he : eu = 0
      · subst he
        go_wp2_with first | (at_builtin; refine wpList_append_own _ rfl _ _ 78 rfl w2.heap.size 22 i0 (.int .u64 0) 1 8 Tryd.underlying78 hi hz0 hz1 hz2 rfl (by decide) _ _ _ rfl (hrow.alloc _) _ 1 1 [.int .u64 vu] rfl rfl (Pt.cell_one_new' _ _ _) (by simp [Value.oneCell']) (by simp [maxLen]; omega) (by omega) (by simp; omega) ?_; intro v9 w9 hown9 hgrow9 hnil9; have HO := Lib.hid hown9; have HG := Lib.hid hgrow9; clear hown9 hgrow9 hnil9) | (refine HW.out.mono ?_; rintro e w5 ⟨rfl, rfl⟩)
        refine ⟨⟨k + 1, by omega, by go_num, fun j t' hj ht' => ?_, ?_, (HB.out.alloc hsz _).grown HG.out (by simp; omega) (fun gg hgg => (World.ownsRow.lt hrow gg hgg).1)⟩, by first | omega | (simp [intOf]; done) | (simp [intOf]; omega)⟩
        · by_cases hj2 : j = k
          · subst hj2
            rw [HT.out] at ht'
            injection ht' with ht'
            rw [← ht', HWO.out]; rfl
          · exact HOK.out j t' (by omega) ht'
        · have e1 : ts.take (k + 1) = ts.take k ++ [t] := by
            rw [List.take_add_one, HT.out]; rfl
          rw [e1]
          have := HO.out
          rw [HV.out] at this
          simpa [nsv] using this
      · have hne : (eu != 0) = true := by simpa using he
        have HF := Lib.hid (readR_word (s := s) (ws := t0 :: ts) (by
          unfold allW
          rw [List.tail_cons, Bool.eq_false_iff]
          intro h
          have := List.all_eq_true.1 h t (List.mem_of_getElem? HT.out)
          rw [HWO.out, decide_eq_false he] at this
          cases this))
        clear he hrow
        go_wp2_with first | (refine HW.out.mono ?_; rintro e w5 ⟨rfl, rfl⟩) | (refine wpList_store_row rfl 24 _ _ rfl w.heap.size #[.int .i64 0, .int .u64 0, .int .i64 0, .int .u64 0, .int .u64 0] rfl rfl 24 #[.int .i64 0, .int .u64 0, .int .i64 0, .int .u64 0, .int .u64 0] (HZ.out wr HB.out) infoA rfl zone ?_; rw [setRow_self _ _ _ _ _ (HZ.out wr HB.out)])
        exact ⟨rfl, _, ret_a rfl (HZ.out wr HB.out) rfl rfl, by rw [HF.out]; rfl, HBT.out wr HB.out⟩
    · have hke : k = ts.length := by omega
      subst hke
      have HAL := Lib.hid (show allW (t0 :: ts) = true from by
        unfold allW
        rw [List.tail_cons, List.all_eq_true]
        intro t ht
        obtain ⟨j, hj⟩ := List.mem_iff_getElem?.1 ht
        exact HOK.out j t (List.getElem?_eq_some_iff.1 hj).1 hj)
      have HR0 := Lib.hid (show wr.ownsRow w2.heap.size 22 1 (.slice OA ts.length OC) (ts.map wV ++ List.replicate 0 0).length (nsv (ts.map wV ++ List.replicate 0 0)) from by
        have := HR.out
        rw [List.take_length] at this
        simpa using this)
      clear hrow
      go_wp2_with fail
      go_loopw [5] (fun ov wr => ∃ m : Nat, wr.ownsRow w2.heap.size 22 1 ov (ts.map wV ++ List.replicate m 0).length (nsv (ts.map wV ++ List.replicate m 0)) ∧ ts.length + m ≤ 1004 ∧ Below w2.heap.size w2 wr) (fun ov _ => 4 - slen ov)
      case atStart => exact ⟨0, HR0.out, by omega, HB.out⟩
      case round =>
        obtain ⟨m, hrow, hm, hB⟩ := hrel
        obtain ⟨OA, OC, rfl⟩ := shape_s hrow
        have HR := Lib.hid hrow
        have HB := Lib.hid hB
        have hsz := hB.size
        clear hB
        obtain ⟨ns, hns⟩ : ∃ x, x = ts.map wV ++ List.replicate m 0 := ⟨_, rfl⟩
        have hnl : ns.length = ts.length + m := by rw [hns]; simp
        have HN := Lib.hid hns
        rw [← hns] at hrow HR
        rw [← hns]
        clear hns
        by_cases h4 : ns.length < 4
        · go_wp2_with (at_builtin; refine wpList_append_own _ rfl _ _ 78 rfl w2.heap.size 22 i0 (.int .u64 0) 1 8 Tryd.underlying78 hi hz0 hz1 hz2 rfl (by decide) _ _ _ rfl (hrow.alloc _) _ 1 1 [.int .u64 0] rfl rfl (Pt.cell_one_new' _ _ _) (by simp [Value.oneCell']) (by simp [maxLen]; omega) (by omega) (by simp; omega) ?_; intro v9 w9 hown9 hgrow9 hnil9; have HO := Lib.hid hown9; have HG := Lib.hid hgrow9; clear hown9 hgrow9 hnil9)
          refine ⟨⟨m + 1, ?_, by omega, (HB.out.alloc hsz _).grown HG.out (by simp; omega) (fun gg hgg => (World.ownsRow.lt hrow gg hgg).1)⟩, ?_⟩
          · have e1 : ts.map wV ++ List.replicate (m + 1) (0 : Int) = ns ++ [0] := by rw [HN.out, List.replicate_succ', List.append_assoc]
            rw [e1]
            have := HO.out
            simpa [nsv] using this
          · show 4 - slen _ < 4 - ns.length
            rw [slen_own HO.out]; omega
        · obtain ⟨gn, cn, hgn⟩ := pos_s hrow (by omega)
          injection hgn with q1 q2 q3
          subst q1 q3
          have HCN := Lib.hid (rrow_cell hrow)
          clear hrow q2
          have HNA := Lib.hid (show ∀ j, j < 4 → wr.cell? ⟨gn, j, none⟩ = some (.int .u64 (nAt (t0 :: ts) j)) from fun j hj => HCN.out.2 j _ (by
            unfold nsv
            rw [List.getElem?_map, HN.out, nums_at t0 ts m j (by rw [← HN.out]; omega)]; rfl))
          obtain ⟨w3, hw3⟩ : ∃ W, W = wr := ⟨_, rfl⟩
          rw [← hw3] at HNA HCN HB hsz HR ⊢
          have hgn3 : gn < w3.heap.size := HCN.out.1
          have HCW := Lib.hid (show ∀ W, Below w3.heap.size w3 W → ∀ j, j < 4 → W.cell? ⟨gn, j, none⟩ = some (.int .u64 (nAt (t0 :: ts) j)) from fun W hW j hj => (hW.cell (p := ⟨gn, j, none⟩) hgn3).trans (HNA.out j hj))
          have HBT3 := Lib.hid (show ∀ W, Below w3.heap.size w3 W → Below w.heap.size w W from fun W hW => HBT.out W (HB.out.trans (hW.mono HB.out.size)))
          have HZ3 := Lib.hid (show ∀ W, Below w3.heap.size w3 W → W.heap[w.heap.size]? = some (.cells #[.int .i64 0, .int .u64 0, .int .i64 0, .int .u64 0, .int .u64 0] 24 (0, 0)) from fun W hW => HZ.out W (HB.out.trans (hW.mono HB.out.size)))
          obtain ⟨n0, hn0⟩ : ∃ x, x = nAt (t0 :: ts) 0 := ⟨_, rfl⟩
          obtain ⟨n1, hn1⟩ : ∃ x, x = nAt (t0 :: ts) 1 := ⟨_, rfl⟩
          obtain ⟨n2, hn2⟩ : ∃ x, x = nAt (t0 :: ts) 2 := ⟨_, rfl⟩
          obtain ⟨n3, hn3⟩ : ∃ x, x = nAt (t0 :: ts) 3 := ⟨_, rfl⟩
          have HE0 := Lib.hid hn0
          have HE1 := Lib.hid hn1
          have HE2 := Lib.hid hn2
          have HE3 := Lib.hid hn3
          have r0 : 0 ≤ n0 ∧ n0 < 18446744073709551616 := by rw [hn0]; exact nAt_rng _ _
          have r1 : 0 ≤ n1 ∧ n1 < 18446744073709551616 := by rw [hn1]; exact nAt_rng _ _
          clear hn0 hn1 hn2 hn3
          have HTX := Lib.hid (fun (W : World) (k : Nat) => rtext_any W (build cellR (nAt (t0 :: ts)) k) (build_ok (c := cellR) cellR_le).2 (buildR_lo (t0 :: ts) k))
          have HRR := Lib.hid (fun (W : World) (k : Nat) => rright_any W (build cellR (nAt (t0 :: ts)) k))
          clear hw3 hnl
          have h4b : 4 ≤ ns.length := by omega
          go_wp2_with fail
          go_loopw [9] (fun i wr => ∃ k : Nat, k ≤ 7 ∧ i = .int .i64 k ∧ (∀ j, j < k → okR s (t0 :: ts) j = false) ∧ Below w3.heap.size w3 wr) (fun i _ => 7 - (intOf i).toNat)
          case atStart => exact ⟨0, Nat.zero_le _, rfl, fun j h => absurd h (Nat.not_lt_zero j), Below.refl _ _⟩
          case round =>
            obtain ⟨k, hk, rfl, hno, hB⟩ := hrel
            have HNO := Lib.hid hno
            have HB := Lib.hid hB
            have hwsz := hB.size
            clear hno hB
            by_cases h7 : k < 7
            rotate_left
            · obtain rfl : k = 7 := by omega
              have HE := Lib.hid (readR_none (s := s) HAL.out HNO.out)
              go_wp2_with (refine wpList_store_row rfl 24 _ _ rfl w.heap.size #[.int .i64 0, .int .u64 0, .int .i64 0, .int .u64 0, .int .u64 0] rfl rfl 24 #[.int .i64 0, .int .u64 0, .int .i64 0, .int .u64 0, .int .u64 0] (HZ3.out wr HB.out) infoA rfl zone ?_; rw [setRow_self _ _ _ _ _ (HZ3.out wr HB.out)])
              exact ⟨rfl, _, ret_a rfl (HZ3.out wr HB.out) rfl rfl, by rw [HE.out]; rfl, HBT3.out wr HB.out⟩
            have hkk : k = 0 ∨ k = 1 ∨ k = 2 ∨ k = 3 ∨ k = 4 ∨ k = 5 ∨ k = 6 := by omega
            rcases hkk with rfl | rfl | rfl | rfl | rfl | rfl | rfl
            · have x0 : wr.cell? ⟨gn, 0, none⟩ = some (.int .u64 n0) := by rw [HE0.out]; exact HCW.out wr HB.out 0 (by decide)
              have x1 : wr.cell? ⟨gn, 1, none⟩ = some (.int .u64 n1) := by rw [HE1.out]; exact HCW.out wr HB.out 1 (by decide)
              have x2 : wr.cell? ⟨gn, 2, none⟩ = some (.int .u64 n2) := by rw [HE2.out]; exact HCW.out wr HB.out 2 (by decide)
              have x3 : wr.cell? ⟨gn, 3, none⟩ = some (.int .u64 n3) := by rw [HE3.out]; exact HCW.out wr HB.out 3 (by decide)
              have hgw : gn < wr.heap.size := by omega
              have HX := Lib.hid (show build cellR (nAt (t0 :: ts)) 0 = ⟨0, 0, 0, 0, 0⟩ from by rfl)
              have HTK := Lib.hid (fun (W : World) => HTX.out W 0)
              have HRK := Lib.hid (fun (W : World) => HRR.out W 0)
              rw [HX.out] at HTK HRK
              unfold encA cellsA at HTK HRK
              dsimp only at HTK HRK
              obtain ⟨TT, hTT⟩ : ∃ x, x = ba (textA ⟨0, 0, 0, 0, 0⟩) := ⟨_, rfl⟩
              obtain ⟨rr, hrr⟩ : ∃ x, x = rightA ⟨0, 0, 0, 0, 0⟩ := ⟨_, rfl⟩
              rw [← hTT] at HTK
              rw [← hrr] at HRK
              have HOK := Lib.hid (show okR s (t0 :: ts) 0 = (rr && decide (TT = s)) from by
                unfold okR
                rw [HX.out, hTT, hrr]
                congr 1
                rw [Bool.eq_iff_iff, decide_eq_true_eq, decide_eq_true_eq]
                exact ⟨fun h => ba_ext (by rw [ba_data]; exact h), fun h => by rw [← h, ba_data]⟩)
              clear hTT hrr
              go_wp2_with fail
              clear x0 x1 x2 x3
              have HBX := Lib.hid (show Below w3.heap.size w3 (wr.alloc (.cells #[.int .i64 0, .int .u64 0, .int .i64 0, .int .u64 0, .int .u64 0] 24)) from HB.out.alloc HB.out.size _)
              refine (HRK.out _).mono ?_
              rintro e w6 ⟨rfl, hb6⟩
              have HB6 := Lib.hid (HBX.out.trans (hb6.mono HBX.out.size))
              have HX6 := Lib.hid (show w6.heap[wr.heap.size]? = some (.cells #[.int .i64 0, .int .u64 0, .int .i64 0, .int .u64 0, .int .u64 0] 24 (0, 0)) from (hb6.block wr.heap.size (by simp)).trans (heap_alloc_new wr _))
              clear hb6
              have y0 : w6.cell? ⟨wr.heap.size, 0, none⟩ = some (.int .i64 0) := cell_of1' HX6.out 0
              have y1 : w6.cell? ⟨wr.heap.size, 1, none⟩ = some (.int .u64 0) := cell_of1' HX6.out 1
              have y2 : w6.cell? ⟨wr.heap.size, 2, none⟩ = some (.int .i64 0) := cell_of1' HX6.out 2
              have y3 : w6.cell? ⟨wr.heap.size, 3, none⟩ = some (.int .u64 0) := cell_of1' HX6.out 3
              have y4 : w6.cell? ⟨wr.heap.size, 4, none⟩ = some (.int .u64 0) := cell_of1' HX6.out 4
              cases rr with
              | false =>
                have HF := Lib.hid (show okR s (t0 :: ts) 0 = false from by rw [HOK.out, Bool.false_and])
                go_wp2_with fail
                refine ⟨⟨1, by omega, by go_num, fun j hj => ?_, HB6.out⟩, by first | omega | (simp [intOf]; done) | (simp [intOf]; omega)⟩
                by_cases e : j = 0
                · subst e; exact HF.out
                · exact HNO.out j (by omega)
              | true =>
                go_wp2_with fail
                refine (HTK.out _).mono ?_
                rintro e w7 ⟨rfl, hb7⟩
                have HB7 := Lib.hid (HB6.out.trans (hb7.mono HB6.out.size))
                have HX7 := Lib.hid ((hb7.block wr.heap.size (lt_of_block HX6.out)).trans HX6.out)
                clear hb7 y0 y1 y2 y3 y4
                have y0 : w7.cell? ⟨wr.heap.size, 0, none⟩ = some (.int .i64 0) := cell_of1' HX7.out 0
                have y1 : w7.cell? ⟨wr.heap.size, 1, none⟩ = some (.int .u64 0) := cell_of1' HX7.out 1
                have y2 : w7.cell? ⟨wr.heap.size, 2, none⟩ = some (.int .i64 0) := cell_of1' HX7.out 2
                have y3 : w7.cell? ⟨wr.heap.size, 3, none⟩ = some (.int .u64 0) := cell_of1' HX7.out 3
                have y4 : w7.cell? ⟨wr.heap.size, 4, none⟩ = some (.int .u64 0) := cell_of1' HX7.out 4
                by_cases hts : TT = s
                · have d1 : (TT.toList == s.toList) = true := by rw [hts]; simp
                  have HE := Lib.hid (readR_at (k := 0) HAL.out (by decide) HNO.out (by rw [HOK.out, decide_eq_true hts]; rfl))
                  rw [HX.out] at HE
                  clear hts
                  go_wp2_with (refine wpList_store_row rfl 24 _ _ rfl w.heap.size #[.int .i64 0, .int .u64 0, .int .i64 0, .int .u64 0, .int .u64 0] rfl rfl 24 #[.int .i64 0, .int .u64 0, .int .i64 0, .int .u64 0, .int .u64 0] (HZ3.out w7 HB7.out) infoA rfl (by simp [Value.oneCell']) ?_)
                  exact ⟨rfl, _, ret_a rfl (setRow_heap _ _ _ _ _ _ (HZ3.out w7 HB7.out)) rfl rfl, by rw [HE.out]; rfl, below_setRow (HBT3.out w7 HB7.out) (Nat.le_refl _) _⟩
                · have d1 : ¬ (TT.toList == s.toList) = true := fun e => hts (by rw [toList_eq_iff] at e; exact of_decide_eq_true e)
                  have HF := Lib.hid (show okR s (t0 :: ts) 0 = false from by rw [HOK.out, decide_eq_false hts, Bool.and_false])
                  clear hts
                  go_wp2_with fail
                  refine ⟨⟨1, by omega, by go_num, fun j hj => ?_, HB7.out⟩, by first | omega | (simp [intOf]; done) | (simp [intOf]; omega)⟩
                  by_cases e : j = 0
                  · subst e; exact HF.out
                  · exact HNO.out j (by omega)
            · have x0 : wr.cell? ⟨gn, 0, none⟩ = some (.int .u64 n0) := by rw [HE0.out]; exact HCW.out wr HB.out 0 (by decide)
              have x1 : wr.cell? ⟨gn, 1, none⟩ = some (.int .u64 n1) := by rw [HE1.out]; exact HCW.out wr HB.out 1 (by decide)
              have x2 : wr.cell? ⟨gn, 2, none⟩ = some (.int .u64 n2) := by rw [HE2.out]; exact HCW.out wr HB.out 2 (by decide)
              have x3 : wr.cell? ⟨gn, 3, none⟩ = some (.int .u64 n3) := by rw [HE3.out]; exact HCW.out wr HB.out 3 (by decide)
              have hgw : gn < wr.heap.size := by omega
              by_cases hbig : 999999999999999999 < n1
              · have hcc : cellR n1 = 0 := by unfold cellR; rw [if_pos hbig]
                have hb1 : decide (999999999999999999 < n1) = true := decide_eq_true hbig
                have HX := Lib.hid (show build cellR (nAt (t0 :: ts)) 1 = ⟨1, n0, 0, 0, 0⟩ from by 
                  have hq : cellR (nAt (t0 :: ts) 1) = 0 := by rw [← HE1.out]; exact hcc
                  unfold build
                  rw [hq, ← HE0.out]
                  try rfl)
                have HTK := Lib.hid (fun (W : World) => HTX.out W 1)
                have HRK := Lib.hid (fun (W : World) => HRR.out W 1)
                rw [HX.out] at HTK HRK
                unfold encA cellsA at HTK HRK
                dsimp only at HTK HRK
                obtain ⟨TT, hTT⟩ : ∃ x, x = ba (textA ⟨1, n0, 0, 0, 0⟩) := ⟨_, rfl⟩
                obtain ⟨rr, hrr⟩ : ∃ x, x = rightA ⟨1, n0, 0, 0, 0⟩ := ⟨_, rfl⟩
                rw [← hTT] at HTK
                rw [← hrr] at HRK
                have HOK := Lib.hid (show okR s (t0 :: ts) 1 = (rr && decide (TT = s)) from by
                  unfold okR
                  rw [HX.out, hTT, hrr]
                  congr 1
                  rw [Bool.eq_iff_iff, decide_eq_true_eq, decide_eq_true_eq]
                  exact ⟨fun h => ba_ext (by rw [ba_data]; exact h), fun h => by rw [← h, ba_data]⟩)
                clear hTT hrr
                go_wp2_with fail
                clear x0 x1 x2 x3
                have HBX := Lib.hid (show Below w3.heap.size w3 (wr.alloc (.cells #[.int .i64 1, .int .u64 n0, .int .i64 0, .int .u64 0, .int .u64 0] 24)) from HB.out.alloc HB.out.size _)
                refine (HRK.out _).mono ?_
                rintro e w6 ⟨rfl, hb6⟩
                have HB6 := Lib.hid (HBX.out.trans (hb6.mono HBX.out.size))
                have HX6 := Lib.hid (show w6.heap[wr.heap.size]? = some (.cells #[.int .i64 1, .int .u64 n0, .int .i64 0, .int .u64 0, .int .u64 0] 24 (0, 0)) from (hb6.block wr.heap.size (by simp)).trans (heap_alloc_new wr _))
                clear hb6
                have y0 : w6.cell? ⟨wr.heap.size, 0, none⟩ = some (.int .i64 1) := cell_of1' HX6.out 0
                have y1 : w6.cell? ⟨wr.heap.size, 1, none⟩ = some (.int .u64 n0) := cell_of1' HX6.out 1
                have y2 : w6.cell? ⟨wr.heap.size, 2, none⟩ = some (.int .i64 0) := cell_of1' HX6.out 2
                have y3 : w6.cell? ⟨wr.heap.size, 3, none⟩ = some (.int .u64 0) := cell_of1' HX6.out 3
                have y4 : w6.cell? ⟨wr.heap.size, 4, none⟩ = some (.int .u64 0) := cell_of1' HX6.out 4
                cases rr with
                | false =>
                  have HF := Lib.hid (show okR s (t0 :: ts) 1 = false from by rw [HOK.out, Bool.false_and])
                  go_wp2_with fail
                  refine ⟨⟨2, by omega, by go_num, fun j hj => ?_, HB6.out⟩, by first | omega | (simp [intOf]; done) | (simp [intOf]; omega)⟩
                  by_cases e : j = 1
                  · subst e; exact HF.out
                  · exact HNO.out j (by omega)
                | true =>
                  go_wp2_with fail
                  refine (HTK.out _).mono ?_
                  rintro e w7 ⟨rfl, hb7⟩
                  have HB7 := Lib.hid (HB6.out.trans (hb7.mono HB6.out.size))
                  have HX7 := Lib.hid ((hb7.block wr.heap.size (lt_of_block HX6.out)).trans HX6.out)
                  clear hb7 y0 y1 y2 y3 y4
                  have y0 : w7.cell? ⟨wr.heap.size, 0, none⟩ = some (.int .i64 1) := cell_of1' HX7.out 0
                  have y1 : w7.cell? ⟨wr.heap.size, 1, none⟩ = some (.int .u64 n0) := cell_of1' HX7.out 1
                  have y2 : w7.cell? ⟨wr.heap.size, 2, none⟩ = some (.int .i64 0) := cell_of1' HX7.out 2
                  have y3 : w7.cell? ⟨wr.heap.size, 3, none⟩ = some (.int .u64 0) := cell_of1' HX7.out 3
                  have y4 : w7.cell? ⟨wr.heap.size, 4, none⟩ = some (.int .u64 0) := cell_of1' HX7.out 4
                  by_cases hts : TT = s
                  · have d1 : (TT.toList == s.toList) = true := by rw [hts]; simp
                    have HE := Lib.hid (readR_at (k := 1) HAL.out (by decide) HNO.out (by rw [HOK.out, decide_eq_true hts]; rfl))
                    rw [HX.out] at HE
                    clear hts
                    go_wp2_with (refine wpList_store_row rfl 24 _ _ rfl w.heap.size #[.int .i64 1, .int .u64 n0, .int .i64 0, .int .u64 0, .int .u64 0] rfl rfl 24 #[.int .i64 0, .int .u64 0, .int .i64 0, .int .u64 0, .int .u64 0] (HZ3.out w7 HB7.out) infoA rfl (by simp [Value.oneCell']) ?_)
                    exact ⟨rfl, _, ret_a rfl (setRow_heap _ _ _ _ _ _ (HZ3.out w7 HB7.out)) rfl rfl, by rw [HE.out]; rfl, below_setRow (HBT3.out w7 HB7.out) (Nat.le_refl _) _⟩
                  · have d1 : ¬ (TT.toList == s.toList) = true := fun e => hts (by rw [toList_eq_iff] at e; exact of_decide_eq_true e)
                    have HF := Lib.hid (show okR s (t0 :: ts) 1 = false from by rw [HOK.out, decide_eq_false hts, Bool.and_false])
                    clear hts
                    go_wp2_with fail
                    refine ⟨⟨2, by omega, by go_num, fun j hj => ?_, HB7.out⟩, by first | omega | (simp [intOf]; done) | (simp [intOf]; omega)⟩
                    by_cases e : j = 1
                    · subst e; exact HF.out
                    · exact HNO.out j (by omega)
              · have hcc : cellR n1 = n1 := by unfold cellR; rw [if_neg hbig]
                have hb1 : decide (999999999999999999 < n1) = false := decide_eq_false hbig
                have hwz : IntKind.i64.wrap n1 = n1 := IntWalk.i64_in _ (by omega)
                have HX := Lib.hid (show build cellR (nAt (t0 :: ts)) 1 = ⟨1, n0, n1, 0, 0⟩ from by 
                  have hq : cellR (nAt (t0 :: ts) 1) = n1 := by rw [← HE1.out]; exact hcc
                  unfold build
                  rw [hq, ← HE0.out]
                  try rfl)
                have HTK := Lib.hid (fun (W : World) => HTX.out W 1)
                have HRK := Lib.hid (fun (W : World) => HRR.out W 1)
                rw [HX.out] at HTK HRK
                unfold encA cellsA at HTK HRK
                dsimp only at HTK HRK
                obtain ⟨TT, hTT⟩ : ∃ x, x = ba (textA ⟨1, n0, n1, 0, 0⟩) := ⟨_, rfl⟩
                obtain ⟨rr, hrr⟩ : ∃ x, x = rightA ⟨1, n0, n1, 0, 0⟩ := ⟨_, rfl⟩
                rw [← hTT] at HTK
                rw [← hrr] at HRK
                have HOK := Lib.hid (show okR s (t0 :: ts) 1 = (rr && decide (TT = s)) from by
                  unfold okR
                  rw [HX.out, hTT, hrr]
                  congr 1
                  rw [Bool.eq_iff_iff, decide_eq_true_eq, decide_eq_true_eq]
                  exact ⟨fun h => ba_ext (by rw [ba_data]; exact h), fun h => by rw [← h, ba_data]⟩)
                clear hTT hrr
                go_wp2_with fail
                clear x0 x1 x2 x3
                have HBX := Lib.hid (show Below w3.heap.size w3 (wr.alloc (.cells #[.int .i64 1, .int .u64 n0, .int .i64 n1, .int .u64 0, .int .u64 0] 24)) from HB.out.alloc HB.out.size _)
                refine (HRK.out _).mono ?_
                rintro e w6 ⟨rfl, hb6⟩
                have HB6 := Lib.hid (HBX.out.trans (hb6.mono HBX.out.size))
                have HX6 := Lib.hid (show w6.heap[wr.heap.size]? = some (.cells #[.int .i64 1, .int .u64 n0, .int .i64 n1, .int .u64 0, .int .u64 0] 24 (0, 0)) from (hb6.block wr.heap.size (by simp)).trans (heap_alloc_new wr _))
                clear hb6
                have y0 : w6.cell? ⟨wr.heap.size, 0, none⟩ = some (.int .i64 1) := cell_of1' HX6.out 0
                have y1 : w6.cell? ⟨wr.heap.size, 1, none⟩ = some (.int .u64 n0) := cell_of1' HX6.out 1
                have y2 : w6.cell? ⟨wr.heap.size, 2, none⟩ = some (.int .i64 n1) := cell_of1' HX6.out 2
                have y3 : w6.cell? ⟨wr.heap.size, 3, none⟩ = some (.int .u64 0) := cell_of1' HX6.out 3
                have y4 : w6.cell? ⟨wr.heap.size, 4, none⟩ = some (.int .u64 0) := cell_of1' HX6.out 4
                cases rr with
                | false =>
                  have HF := Lib.hid (show okR s (t0 :: ts) 1 = false from by rw [HOK.out, Bool.false_and])
                  go_wp2_with fail
                  refine ⟨⟨2, by omega, by go_num, fun j hj => ?_, HB6.out⟩, by first | omega | (simp [intOf]; done) | (simp [intOf]; omega)⟩
                  by_cases e : j = 1
                  · subst e; exact HF.out
                  · exact HNO.out j (by omega)
                | true =>
                  go_wp2_with fail
                  refine (HTK.out _).mono ?_
                  rintro e w7 ⟨rfl, hb7⟩
                  have HB7 := Lib.hid (HB6.out.trans (hb7.mono HB6.out.size))
                  have HX7 := Lib.hid ((hb7.block wr.heap.size (lt_of_block HX6.out)).trans HX6.out)
                  clear hb7 y0 y1 y2 y3 y4
                  have y0 : w7.cell? ⟨wr.heap.size, 0, none⟩ = some (.int .i64 1) := cell_of1' HX7.out 0
                  have y1 : w7.cell? ⟨wr.heap.size, 1, none⟩ = some (.int .u64 n0) := cell_of1' HX7.out 1
                  have y2 : w7.cell? ⟨wr.heap.size, 2, none⟩ = some (.int .i64 n1) := cell_of1' HX7.out 2
                  have y3 : w7.cell? ⟨wr.heap.size, 3, none⟩ = some (.int .u64 0) := cell_of1' HX7.out 3
                  have y4 : w7.cell? ⟨wr.heap.size, 4, none⟩ = some (.int .u64 0) := cell_of1' HX7.out 4
                  by_cases hts : TT = s
                  · have d1 : (TT.toList == s.toList) = true := by rw [hts]; simp
                    have HE := Lib.hid (readR_at (k := 1) HAL.out (by decide) HNO.out (by rw [HOK.out, decide_eq_true hts]; rfl))
                    rw [HX.out] at HE
                    clear hts
                    go_wp2_with (refine wpList_store_row rfl 24 _ _ rfl w.heap.size #[.int .i64 1, .int .u64 n0, .int .i64 n1, .int .u64 0, .int .u64 0] rfl rfl 24 #[.int .i64 0, .int .u64 0, .int .i64 0, .int .u64 0, .int .u64 0] (HZ3.out w7 HB7.out) infoA rfl (by simp [Value.oneCell']) ?_)
                    exact ⟨rfl, _, ret_a rfl (setRow_heap _ _ _ _ _ _ (HZ3.out w7 HB7.out)) rfl rfl, by rw [HE.out]; rfl, below_setRow (HBT3.out w7 HB7.out) (Nat.le_refl _) _⟩
                  · have d1 : ¬ (TT.toList == s.toList) = true := fun e => hts (by rw [toList_eq_iff] at e; exact of_decide_eq_true e)
                    have HF := Lib.hid (show okR s (t0 :: ts) 1 = false from by rw [HOK.out, decide_eq_false hts, Bool.and_false])
                    clear hts
                    go_wp2_with fail
                    refine ⟨⟨2, by omega, by go_num, fun j hj => ?_, HB7.out⟩, by first | omega | (simp [intOf]; done) | (simp [intOf]; omega)⟩
                    by_cases e : j = 1
                    · subst e; exact HF.out
                    · exact HNO.out j (by omega)
            · have x0 : wr.cell? ⟨gn, 0, none⟩ = some (.int .u64 n0) := by rw [HE0.out]; exact HCW.out wr HB.out 0 (by decide)
              have x1 : wr.cell? ⟨gn, 1, none⟩ = some (.int .u64 n1) := by rw [HE1.out]; exact HCW.out wr HB.out 1 (by decide)
              have x2 : wr.cell? ⟨gn, 2, none⟩ = some (.int .u64 n2) := by rw [HE2.out]; exact HCW.out wr HB.out 2 (by decide)
              have x3 : wr.cell? ⟨gn, 3, none⟩ = some (.int .u64 n3) := by rw [HE3.out]; exact HCW.out wr HB.out 3 (by decide)
              have hgw : gn < wr.heap.size := by omega
              by_cases hbig : 999999999999999999 < n1
              · have hcc : cellR n1 = 0 := by unfold cellR; rw [if_pos hbig]
                have hb1 : decide (999999999999999999 < n1) = true := decide_eq_true hbig
                have HX := Lib.hid (show build cellR (nAt (t0 :: ts)) 2 = ⟨2, n0, 0, 0, n2⟩ from by 
                  have hq : cellR (nAt (t0 :: ts) 1) = 0 := by rw [← HE1.out]; exact hcc
                  unfold build
                  rw [hq, ← HE0.out, ← HE2.out]
                  try rfl)
                have HTK := Lib.hid (fun (W : World) => HTX.out W 2)
                have HRK := Lib.hid (fun (W : World) => HRR.out W 2)
                rw [HX.out] at HTK HRK
                unfold encA cellsA at HTK HRK
                dsimp only at HTK HRK
                obtain ⟨TT, hTT⟩ : ∃ x, x = ba (textA ⟨2, n0, 0, 0, n2⟩) := ⟨_, rfl⟩
                obtain ⟨rr, hrr⟩ : ∃ x, x = rightA ⟨2, n0, 0, 0, n2⟩ := ⟨_, rfl⟩
                rw [← hTT] at HTK
                rw [← hrr] at HRK
                have HOK := Lib.hid (show okR s (t0 :: ts) 2 = (rr && decide (TT = s)) from by
                  unfold okR
                  rw [HX.out, hTT, hrr]
                  congr 1
                  rw [Bool.eq_iff_iff, decide_eq_true_eq, decide_eq_true_eq]
                  exact ⟨fun h => ba_ext (by rw [ba_data]; exact h), fun h => by rw [← h, ba_data]⟩)
                clear hTT hrr
                go_wp2_with fail
                clear x0 x1 x2 x3
                have HBX := Lib.hid (show Below w3.heap.size w3 (wr.alloc (.cells #[.int .i64 2, .int .u64 n0, .int .i64 0, .int .u64 0, .int .u64 n2] 24)) from HB.out.alloc HB.out.size _)
                refine (HRK.out _).mono ?_
                rintro e w6 ⟨rfl, hb6⟩
                have HB6 := Lib.hid (HBX.out.trans (hb6.mono HBX.out.size))
                have HX6 := Lib.hid (show w6.heap[wr.heap.size]? = some (.cells #[.int .i64 2, .int .u64 n0, .int .i64 0, .int .u64 0, .int .u64 n2] 24 (0, 0)) from (hb6.block wr.heap.size (by simp)).trans (heap_alloc_new wr _))
                clear hb6
                have y0 : w6.cell? ⟨wr.heap.size, 0, none⟩ = some (.int .i64 2) := cell_of1' HX6.out 0
                have y1 : w6.cell? ⟨wr.heap.size, 1, none⟩ = some (.int .u64 n0) := cell_of1' HX6.out 1
                have y2 : w6.cell? ⟨wr.heap.size, 2, none⟩ = some (.int .i64 0) := cell_of1' HX6.out 2
                have y3 : w6.cell? ⟨wr.heap.size, 3, none⟩ = some (.int .u64 0) := cell_of1' HX6.out 3
                have y4 : w6.cell? ⟨wr.heap.size, 4, none⟩ = some (.int .u64 n2) := cell_of1' HX6.out 4
                cases rr with
                | false =>
                  have HF := Lib.hid (show okR s (t0 :: ts) 2 = false from by rw [HOK.out, Bool.false_and])
                  go_wp2_with fail
                  refine ⟨⟨3, by omega, by go_num, fun j hj => ?_, HB6.out⟩, by first | omega | (simp [intOf]; done) | (simp [intOf]; omega)⟩
                  by_cases e : j = 2
                  · subst e; exact HF.out
                  · exact HNO.out j (by omega)
                | true =>
                  go_wp2_with fail
                  refine (HTK.out _).mono ?_
                  rintro e w7 ⟨rfl, hb7⟩
                  have HB7 := Lib.hid (HB6.out.trans (hb7.mono HB6.out.size))
                  have HX7 := Lib.hid ((hb7.block wr.heap.size (lt_of_block HX6.out)).trans HX6.out)
                  clear hb7 y0 y1 y2 y3 y4
                  have y0 : w7.cell? ⟨wr.heap.size, 0, none⟩ = some (.int .i64 2) := cell_of1' HX7.out 0
                  have y1 : w7.cell? ⟨wr.heap.size, 1, none⟩ = some (.int .u64 n0) := cell_of1' HX7.out 1
                  have y2 : w7.cell? ⟨wr.heap.size, 2, none⟩ = some (.int .i64 0) := cell_of1' HX7.out 2
                  have y3 : w7.cell? ⟨wr.heap.size, 3, none⟩ = some (.int .u64 0) := cell_of1' HX7.out 3
                  have y4 : w7.cell? ⟨wr.heap.size, 4, none⟩ = some (.int .u64 n2) := cell_of1' HX7.out 4
                  by_cases hts : TT = s
                  · have d1 : (TT.toList == s.toList) = true := by rw [hts]; simp
                    have HE := Lib.hid (readR_at (k := 2) HAL.out (by decide) HNO.out (by rw [HOK.out, decide_eq_true hts]; rfl))
                    rw [HX.out] at HE
                    clear hts
                    go_wp2_with (refine wpList_store_row rfl 24 _ _ rfl w.heap.size #[.int .i64 2, .int .u64 n0, .int .i64 0, .int .u64 0, .int .u64 n2] rfl rfl 24 #[.int .i64 0, .int .u64 0, .int .i64 0, .int .u64 0, .int .u64 0] (HZ3.out w7 HB7.out) infoA rfl (by simp [Value.oneCell']) ?_)
                    exact ⟨rfl, _, ret_a rfl (setRow_heap _ _ _ _ _ _ (HZ3.out w7 HB7.out)) rfl rfl, by rw [HE.out]; rfl, below_setRow (HBT3.out w7 HB7.out) (Nat.le_refl _) _⟩
                  · have d1 : ¬ (TT.toList == s.toList) = true := fun e => hts (by rw [toList_eq_iff] at e; exact of_decide_eq_true e)
                    have HF := Lib.hid (show okR s (t0 :: ts) 2 = false from by rw [HOK.out, decide_eq_false hts, Bool.and_false])
                    clear hts
                    go_wp2_with fail
                    refine ⟨⟨3, by omega, by go_num, fun j hj => ?_, HB7.out⟩, by first | omega | (simp [intOf]; done) | (simp [intOf]; omega)⟩
                    by_cases e : j = 2
                    · subst e; exact HF.out
                    · exact HNO.out j (by omega)
              · have hcc : cellR n1 = n1 := by unfold cellR; rw [if_neg hbig]
                have hb1 : decide (999999999999999999 < n1) = false := decide_eq_false hbig
                have hwz : IntKind.i64.wrap n1 = n1 := IntWalk.i64_in _ (by omega)
                have HX := Lib.hid (show build cellR (nAt (t0 :: ts)) 2 = ⟨2, n0, n1, 0, n2⟩ from by 
                  have hq : cellR (nAt (t0 :: ts) 1) = n1 := by rw [← HE1.out]; exact hcc
                  unfold build
                  rw [hq, ← HE0.out, ← HE2.out]
                  try rfl)
                have HTK := Lib.hid (fun (W : World) => HTX.out W 2)
                have HRK := Lib.hid (fun (W : World) => HRR.out W 2)
                rw [HX.out] at HTK HRK
                unfold encA cellsA at HTK HRK
                dsimp only at HTK HRK
                obtain ⟨TT, hTT⟩ : ∃ x, x = ba (textA ⟨2, n0, n1, 0, n2⟩) := ⟨_, rfl⟩
                obtain ⟨rr, hrr⟩ : ∃ x, x = rightA ⟨2, n0, n1, 0, n2⟩ := ⟨_, rfl⟩
                rw [← hTT] at HTK
                rw [← hrr] at HRK
                have HOK := Lib.hid (show okR s (t0 :: ts) 2 = (rr && decide (TT = s)) from by
                  unfold okR
                  rw [HX.out, hTT, hrr]
                  congr 1
                  rw [Bool.eq_iff_iff, decide_eq_true_eq, decide_eq_true_eq]
                  exact ⟨fun h => ba_ext (by rw [ba_data]; exact h), fun h => by rw [← h, ba_data]⟩)
                clear hTT hrr
                go_wp2_with fail
                clear x0 x1 x2 x3
                have HBX := Lib.hid (show Below w3.heap.size w3 (wr.alloc (.cells #[.int .i64 2, .int .u64 n0, .int .i64 n1, .int .u64 0, .int .u64 n2] 24)) from HB.out.alloc HB.out.size _)
                refine (HRK.out _).mono ?_
                rintro e w6 ⟨rfl, hb6⟩
                have HB6 := Lib.hid (HBX.out.trans (hb6.mono HBX.out.size))
                have HX6 := Lib.hid (show w6.heap[wr.heap.size]? = some (.cells #[.int .i64 2, .int .u64 n0, .int .i64 n1, .int .u64 0, .int .u64 n2] 24 (0, 0)) from (hb6.block wr.heap.size (by simp)).trans (heap_alloc_new wr _))
                clear hb6
                have y0 : w6.cell? ⟨wr.heap.size, 0, none⟩ = some (.int .i64 2) := cell_of1' HX6.out 0
                have y1 : w6.cell? ⟨wr.heap.size, 1, none⟩ = some (.int .u64 n0) := cell_of1' HX6.out 1
                have y2 : w6.cell? ⟨wr.heap.size, 2, none⟩ = some (.int .i64 n1) := cell_of1' HX6.out 2
                have y3 : w6.cell? ⟨wr.heap.size, 3, none⟩ = some (.int .u64 0) := cell_of1' HX6.out 3
                have y4 : w6.cell? ⟨wr.heap.size, 4, none⟩ = some (.int .u64 n2) := cell_of1' HX6.out 4
                cases rr with
                | false =>
                  have HF := Lib.hid (show okR s (t0 :: ts) 2 = false from by rw [HOK.out, Bool.false_and])
                  go_wp2_with fail
                  refine ⟨⟨3, by omega, by go_num, fun j hj => ?_, HB6.out⟩, by first | omega | (simp [intOf]; done) | (simp [intOf]; omega)⟩
                  by_cases e : j = 2
                  · subst e; exact HF.out
                  · exact HNO.out j (by omega)
                | true =>
                  go_wp2_with fail
                  refine (HTK.out _).mono ?_
                  rintro e w7 ⟨rfl, hb7⟩
                  have HB7 := Lib.hid (HB6.out.trans (hb7.mono HB6.out.size))
                  have HX7 := Lib.hid ((hb7.block wr.heap.size (lt_of_block HX6.out)).trans HX6.out)
                  clear hb7 y0 y1 y2 y3 y4
                  have y0 : w7.cell? ⟨wr.heap.size, 0, none⟩ = some (.int .i64 2) := cell_of1' HX7.out 0
                  have y1 : w7.cell? ⟨wr.heap.size, 1, none⟩ = some (.int .u64 n0) := cell_of1' HX7.out 1
                  have y2 : w7.cell? ⟨wr.heap.size, 2, none⟩ = some (.int .i64 n1) := cell_of1' HX7.out 2
                  have y3 : w7.cell? ⟨wr.heap.size, 3, none⟩ = some (.int .u64 0) := cell_of1' HX7.out 3
                  have y4 : w7.cell? ⟨wr.heap.size, 4, none⟩ = some (.int .u64 n2) := cell_of1' HX7.out 4
                  by_cases hts : TT = s
                  · have d1 : (TT.toList == s.toList) = true := by rw [hts]; simp
                    have HE := Lib.hid (readR_at (k := 2) HAL.out (by decide) HNO.out (by rw [HOK.out, decide_eq_true hts]; rfl))
                    rw [HX.out] at HE
                    clear hts
                    go_wp2_with (refine wpList_store_row rfl 24 _ _ rfl w.heap.size #[.int .i64 2, .int .u64 n0, .int .i64 n1, .int .u64 0, .int .u64 n2] rfl rfl 24 #[.int .i64 0, .int .u64 0, .int .i64 0, .int .u64 0, .int .u64 0] (HZ3.out w7 HB7.out) infoA rfl (by simp [Value.oneCell']) ?_)
                    exact ⟨rfl, _, ret_a rfl (setRow_heap _ _ _ _ _ _ (HZ3.out w7 HB7.out)) rfl rfl, by rw [HE.out]; rfl, below_setRow (HBT3.out w7 HB7.out) (Nat.le_refl _) _⟩
                  · have d1 : ¬ (TT.toList == s.toList) = true := fun e => hts (by rw [toList_eq_iff] at e; exact of_decide_eq_true e)
                    have HF := Lib.hid (show okR s (t0 :: ts) 2 = false from by rw [HOK.out, decide_eq_false hts, Bool.and_false])
                    clear hts
                    go_wp2_with fail
                    refine ⟨⟨3, by omega, by go_num, fun j hj => ?_, HB7.out⟩, by first | omega | (simp [intOf]; done) | (simp [intOf]; omega)⟩
                    by_cases e : j = 2
                    · subst e; exact HF.out
                    · exact HNO.out j (by omega)
            · have x0 : wr.cell? ⟨gn, 0, none⟩ = some (.int .u64 n0) := by rw [HE0.out]; exact HCW.out wr HB.out 0 (by decide)
              have x1 : wr.cell? ⟨gn, 1, none⟩ = some (.int .u64 n1) := by rw [HE1.out]; exact HCW.out wr HB.out 1 (by decide)
              have x2 : wr.cell? ⟨gn, 2, none⟩ = some (.int .u64 n2) := by rw [HE2.out]; exact HCW.out wr HB.out 2 (by decide)
              have x3 : wr.cell? ⟨gn, 3, none⟩ = some (.int .u64 n3) := by rw [HE3.out]; exact HCW.out wr HB.out 3 (by decide)
              have hgw : gn < wr.heap.size := by omega
              by_cases hbig : 999999999999999999 < n1
              · have hcc : cellR n1 = 0 := by unfold cellR; rw [if_pos hbig]
                have hb1 : decide (999999999999999999 < n1) = true := decide_eq_true hbig
                have HX := Lib.hid (show build cellR (nAt (t0 :: ts)) 3 = ⟨3, n0, 0, n2, n3⟩ from by 
                  have hq : cellR (nAt (t0 :: ts) 1) = 0 := by rw [← HE1.out]; exact hcc
                  unfold build
                  rw [hq, ← HE0.out, ← HE2.out, ← HE3.out]
                  try rfl)
                have HTK := Lib.hid (fun (W : World) => HTX.out W 3)
                have HRK := Lib.hid (fun (W : World) => HRR.out W 3)
                rw [HX.out] at HTK HRK
                unfold encA cellsA at HTK HRK
                dsimp only at HTK HRK
                obtain ⟨TT, hTT⟩ : ∃ x, x = ba (textA ⟨3, n0, 0, n2, n3⟩) := ⟨_, rfl⟩
                obtain ⟨rr, hrr⟩ : ∃ x, x = rightA ⟨3, n0, 0, n2, n3⟩ := ⟨_, rfl⟩
                rw [← hTT] at HTK
                rw [← hrr] at HRK
                have HOK := Lib.hid (show okR s (t0 :: ts) 3 = (rr && decide (TT = s)) from by
                  unfold okR
                  rw [HX.out, hTT, hrr]
                  congr 1
                  rw [Bool.eq_iff_iff, decide_eq_true_eq, decide_eq_true_eq]
                  exact ⟨fun h => ba_ext (by rw [ba_data]; exact h), fun h => by rw [← h, ba_data]⟩)
                clear hTT hrr
                go_wp2_with fail
                clear x0 x1 x2 x3
                have HBX := Lib.hid (show Below w3.heap.size w3 (wr.alloc (.cells #[.int .i64 3, .int .u64 n0, .int .i64 0, .int .u64 n2, .int .u64 n3] 24)) from HB.out.alloc HB.out.size _)
                refine (HRK.out _).mono ?_
                rintro e w6 ⟨rfl, hb6⟩
                have HB6 := Lib.hid (HBX.out.trans (hb6.mono HBX.out.size))
                have HX6 := Lib.hid (show w6.heap[wr.heap.size]? = some (.cells #[.int .i64 3, .int .u64 n0, .int .i64 0, .int .u64 n2, .int .u64 n3] 24 (0, 0)) from (hb6.block wr.heap.size (by simp)).trans (heap_alloc_new wr _))
                clear hb6
                have y0 : w6.cell? ⟨wr.heap.size, 0, none⟩ = some (.int .i64 3) := cell_of1' HX6.out 0
                have y1 : w6.cell? ⟨wr.heap.size, 1, none⟩ = some (.int .u64 n0) := cell_of1' HX6.out 1
                have y2 : w6.cell? ⟨wr.heap.size, 2, none⟩ = some (.int .i64 0) := cell_of1' HX6.out 2
                have y3 : w6.cell? ⟨wr.heap.size, 3, none⟩ = some (.int .u64 n2) := cell_of1' HX6.out 3
                have y4 : w6.cell? ⟨wr.heap.size, 4, none⟩ = some (.int .u64 n3) := cell_of1' HX6.out 4
                cases rr with
                | false =>
                  have HF := Lib.hid (show okR s (t0 :: ts) 3 = false from by rw [HOK.out, Bool.false_and])
                  go_wp2_with fail
                  refine ⟨⟨4, by omega, by go_num, fun j hj => ?_, HB6.out⟩, by first | omega | (simp [intOf]; done) | (simp [intOf]; omega)⟩
                  by_cases e : j = 3
                  · subst e; exact HF.out
                  · exact HNO.out j (by omega)
                | true =>
                  go_wp2_with fail
                  refine (HTK.out _).mono ?_
                  rintro e w7 ⟨rfl, hb7⟩
                  have HB7 := Lib.hid (HB6.out.trans (hb7.mono HB6.out.size))
                  have HX7 := Lib.hid ((hb7.block wr.heap.size (lt_of_block HX6.out)).trans HX6.out)
                  clear hb7 y0 y1 y2 y3 y4
                  have y0 : w7.cell? ⟨wr.heap.size, 0, none⟩ = some (.int .i64 3) := cell_of1' HX7.out 0
                  have y1 : w7.cell? ⟨wr.heap.size, 1, none⟩ = some (.int .u64 n0) := cell_of1' HX7.out 1
                  have y2 : w7.cell? ⟨wr.heap.size, 2, none⟩ = some (.int .i64 0) := cell_of1' HX7.out 2
                  have y3 : w7.cell? ⟨wr.heap.size, 3, none⟩ = some (.int .u64 n2) := cell_of1' HX7.out 3
                  have y4 : w7.cell? ⟨wr.heap.size, 4, none⟩ = some (.int .u64 n3) := cell_of1' HX7.out 4
                  by_cases hts : TT = s
                  · have d1 : (TT.toList == s.toList) = true := by rw [hts]; simp
                    have HE := Lib.hid (readR_at (k := 3) HAL.out (by decide) HNO.out (by rw [HOK.out, decide_eq_true hts]; rfl))
                    rw [HX.out] at HE
                    clear hts
                    go_wp2_with (refine wpList_store_row rfl 24 _ _ rfl w.heap.size #[.int .i64 3, .int .u64 n0, .int .i64 0, .int .u64 n2, .int .u64 n3] rfl rfl 24 #[.int .i64 0, .int .u64 0, .int .i64 0, .int .u64 0, .int .u64 0] (HZ3.out w7 HB7.out) infoA rfl (by simp [Value.oneCell']) ?_)
                    exact ⟨rfl, _, ret_a rfl (setRow_heap _ _ _ _ _ _ (HZ3.out w7 HB7.out)) rfl rfl, by rw [HE.out]; rfl, below_setRow (HBT3.out w7 HB7.out) (Nat.le_refl _) _⟩
                  · have d1 : ¬ (TT.toList == s.toList) = true := fun e => hts (by rw [toList_eq_iff] at e; exact of_decide_eq_true e)
                    have HF := Lib.hid (show okR s (t0 :: ts) 3 = false from by rw [HOK.out, decide_eq_false hts, Bool.and_false])
                    clear hts
                    go_wp2_with fail
                    refine ⟨⟨4, by omega, by go_num, fun j hj => ?_, HB7.out⟩, by first | omega | (simp [intOf]; done) | (simp [intOf]; omega)⟩
                    by_cases e : j = 3
                    · subst e; exact HF.out
                    · exact HNO.out j (by omega)
              · have hcc : cellR n1 = n1 := by unfold cellR; rw [if_neg hbig]
                have hb1 : decide (999999999999999999 < n1) = false := decide_eq_false hbig
                have hwz : IntKind.i64.wrap n1 = n1 := IntWalk.i64_in _ (by omega)
                have HX := Lib.hid (show build cellR (nAt (t0 :: ts)) 3 = ⟨3, n0, n1, n2, n3⟩ from by 
                  have hq : cellR (nAt (t0 :: ts) 1) = n1 := by rw [← HE1.out]; exact hcc
                  unfold build
                  rw [hq, ← HE0.out, ← HE2.out, ← HE3.out]
                  try rfl)
                have HTK := Lib.hid (fun (W : World) => HTX.out W 3)
                have HRK := Lib.hid (fun (W : World) => HRR.out W 3)
                rw [HX.out] at HTK HRK
                unfold encA cellsA at HTK HRK
                dsimp only at HTK HRK
                obtain ⟨TT, hTT⟩ : ∃ x, x = ba (textA ⟨3, n0, n1, n2, n3⟩) := ⟨_, rfl⟩
                obtain ⟨rr, hrr⟩ : ∃ x, x = rightA ⟨3, n0, n1, n2, n3⟩ := ⟨_, rfl⟩
                rw [← hTT] at HTK
                rw [← hrr] at HRK
                have HOK := Lib.hid (show okR s (t0 :: ts) 3 = (rr && decide (TT = s)) from by
                  unfold okR
                  rw [HX.out, hTT, hrr]
                  congr 1
                  rw [Bool.eq_iff_iff, decide_eq_true_eq, decide_eq_true_eq]
                  exact ⟨fun h => ba_ext (by rw [ba_data]; exact h), fun h => by rw [← h, ba_data]⟩)
                clear hTT hrr
                go_wp2_with fail
                clear x0 x1 x2 x3
                have HBX := Lib.hid (show Below w3.heap.size w3 (wr.alloc (.cells #[.int .i64 3, .int .u64 n0, .int .i64 n1, .int .u64 n2, .int .u64 n3] 24)) from HB.out.alloc HB.out.size _)
                refine (HRK.out _).mono ?_
                rintro e w6 ⟨rfl, hb6⟩
                have HB6 := Lib.hid (HBX.out.trans (hb6.mono HBX.out.size))
                have HX6 := Lib.hid (show w6.heap[wr.heap.size]? = some (.cells #[.int .i64 3, .int .u64 n0, .int .i64 n1, .int .u64 n2, .int .u64 n3] 24 (0, 0)) from (hb6.block wr.heap.size (by simp)).trans (heap_alloc_new wr _))
                clear hb6
                have y0 : w6.cell? ⟨wr.heap.size, 0, none⟩ = some (.int .i64 3) := cell_of1' HX6.out 0
                have y1 : w6.cell? ⟨wr.heap.size, 1, none⟩ = some (.int .u64 n0) := cell_of1' HX6.out 1
                have y2 : w6.cell? ⟨wr.heap.size, 2, none⟩ = some (.int .i64 n1) := cell_of1' HX6.out 2
                have y3 : w6.cell? ⟨wr.heap.size, 3, none⟩ = some (.int .u64 n2) := cell_of1' HX6.out 3
                have y4 : w6.cell? ⟨wr.heap.size, 4, none⟩ = some (.int .u64 n3) := cell_of1' HX6.out 4
                cases rr with
                | false =>
                  have HF := Lib.hid (show okR s (t0 :: ts) 3 = false from by rw [HOK.out, Bool.false_and])
                  go_wp2_with fail
                  refine ⟨⟨4, by omega, by go_num, fun j hj => ?_, HB6.out⟩, by first | omega | (simp [intOf]; done) | (simp [intOf]; omega)⟩
                  by_cases e : j = 3
                  · subst e; exact HF.out
                  · exact HNO.out j (by omega)
                | true =>
                  go_wp2_with fail
                  refine (HTK.out _).mono ?_
                  rintro e w7 ⟨rfl, hb7⟩
                  have HB7 := Lib.hid (HB6.out.trans (hb7.mono HB6.out.size))
                  have HX7 := Lib.hid ((hb7.block wr.heap.size (lt_of_block HX6.out)).trans HX6.out)
                  clear hb7 y0 y1 y2 y3 y4
                  have y0 : w7.cell? ⟨wr.heap.size, 0, none⟩ = some (.int .i64 3) := cell_of1' HX7.out 0
                  have y1 : w7.cell? ⟨wr.heap.size, 1, none⟩ = some (.int .u64 n0) := cell_of1' HX7.out 1
                  have y2 : w7.cell? ⟨wr.heap.size, 2, none⟩ = some (.int .i64 n1) := cell_of1' HX7.out 2
                  have y3 : w7.cell? ⟨wr.heap.size, 3, none⟩ = some (.int .u64 n2) := cell_of1' HX7.out 3
                  have y4 : w7.cell? ⟨wr.heap.size, 4, none⟩ = some (.int .u64 n3) := cell_of1' HX7.out 4
                  by_cases hts : TT = s
                  · have d1 : (TT.toList == s.toList) = true := by rw [hts]; simp
                    have HE := Lib.hid (readR_at (k := 3) HAL.out (by decide) HNO.out (by rw [HOK.out, decide_eq_true hts]; rfl))
                    rw [HX.out] at HE
                    clear hts
                    go_wp2_with (refine wpList_store_row rfl 24 _ _ rfl w.heap.size #[.int .i64 3, .int .u64 n0, .int .i64 n1, .int .u64 n2, .int .u64 n3] rfl rfl 24 #[.int .i64 0, .int .u64 0, .int .i64 0, .int .u64 0, .int .u64 0] (HZ3.out w7 HB7.out) infoA rfl (by simp [Value.oneCell']) ?_)
                    exact ⟨rfl, _, ret_a rfl (setRow_heap _ _ _ _ _ _ (HZ3.out w7 HB7.out)) rfl rfl, by rw [HE.out]; rfl, below_setRow (HBT3.out w7 HB7.out) (Nat.le_refl _) _⟩
                  · have d1 : ¬ (TT.toList == s.toList) = true := fun e => hts (by rw [toList_eq_iff] at e; exact of_decide_eq_true e)
                    have HF := Lib.hid (show okR s (t0 :: ts) 3 = false from by rw [HOK.out, decide_eq_false hts, Bool.and_false])
                    clear hts
                    go_wp2_with fail
                    refine ⟨⟨4, by omega, by go_num, fun j hj => ?_, HB7.out⟩, by first | omega | (simp [intOf]; done) | (simp [intOf]; omega)⟩
                    by_cases e : j = 3
                    · subst e; exact HF.out
                    · exact HNO.out j (by omega)
            · have x0 : wr.cell? ⟨gn, 0, none⟩ = some (.int .u64 n0) := by rw [HE0.out]; exact HCW.out wr HB.out 0 (by decide)
              have x1 : wr.cell? ⟨gn, 1, none⟩ = some (.int .u64 n1) := by rw [HE1.out]; exact HCW.out wr HB.out 1 (by decide)
              have x2 : wr.cell? ⟨gn, 2, none⟩ = some (.int .u64 n2) := by rw [HE2.out]; exact HCW.out wr HB.out 2 (by decide)
              have x3 : wr.cell? ⟨gn, 3, none⟩ = some (.int .u64 n3) := by rw [HE3.out]; exact HCW.out wr HB.out 3 (by decide)
              have hgw : gn < wr.heap.size := by omega
              by_cases hbig : 999999999999999999 < n1
              · have hcc : cellR n1 = 0 := by unfold cellR; rw [if_pos hbig]
                have hb1 : decide (999999999999999999 < n1) = true := decide_eq_true hbig
                have HX := Lib.hid (show build cellR (nAt (t0 :: ts)) 4 = ⟨4, n0, 0, 0, n2⟩ from by 
                  have hq : cellR (nAt (t0 :: ts) 1) = 0 := by rw [← HE1.out]; exact hcc
                  unfold build
                  rw [hq, ← HE0.out, ← HE2.out]
                  try rfl)
                have HTK := Lib.hid (fun (W : World) => HTX.out W 4)
                have HRK := Lib.hid (fun (W : World) => HRR.out W 4)
                rw [HX.out] at HTK HRK
                unfold encA cellsA at HTK HRK
                dsimp only at HTK HRK
                obtain ⟨TT, hTT⟩ : ∃ x, x = ba (textA ⟨4, n0, 0, 0, n2⟩) := ⟨_, rfl⟩
                obtain ⟨rr, hrr⟩ : ∃ x, x = rightA ⟨4, n0, 0, 0, n2⟩ := ⟨_, rfl⟩
                rw [← hTT] at HTK
                rw [← hrr] at HRK
                have HOK := Lib.hid (show okR s (t0 :: ts) 4 = (rr && decide (TT = s)) from by
                  unfold okR
                  rw [HX.out, hTT, hrr]
                  congr 1
                  rw [Bool.eq_iff_iff, decide_eq_true_eq, decide_eq_true_eq]
                  exact ⟨fun h => ba_ext (by rw [ba_data]; exact h), fun h => by rw [← h, ba_data]⟩)
                clear hTT hrr
                go_wp2_with fail
                clear x0 x1 x2 x3
                have HBX := Lib.hid (show Below w3.heap.size w3 (wr.alloc (.cells #[.int .i64 4, .int .u64 n0, .int .i64 0, .int .u64 0, .int .u64 n2] 24)) from HB.out.alloc HB.out.size _)
                refine (HRK.out _).mono ?_
                rintro e w6 ⟨rfl, hb6⟩
                have HB6 := Lib.hid (HBX.out.trans (hb6.mono HBX.out.size))
                have HX6 := Lib.hid (show w6.heap[wr.heap.size]? = some (.cells #[.int .i64 4, .int .u64 n0, .int .i64 0, .int .u64 0, .int .u64 n2] 24 (0, 0)) from (hb6.block wr.heap.size (by simp)).trans (heap_alloc_new wr _))
                clear hb6
                have y0 : w6.cell? ⟨wr.heap.size, 0, none⟩ = some (.int .i64 4) := cell_of1' HX6.out 0
                have y1 : w6.cell? ⟨wr.heap.size, 1, none⟩ = some (.int .u64 n0) := cell_of1' HX6.out 1
                have y2 : w6.cell? ⟨wr.heap.size, 2, none⟩ = some (.int .i64 0) := cell_of1' HX6.out 2
                have y3 : w6.cell? ⟨wr.heap.size, 3, none⟩ = some (.int .u64 0) := cell_of1' HX6.out 3
                have y4 : w6.cell? ⟨wr.heap.size, 4, none⟩ = some (.int .u64 n2) := cell_of1' HX6.out 4
                cases rr with
                | false =>
                  have HF := Lib.hid (show okR s (t0 :: ts) 4 = false from by rw [HOK.out, Bool.false_and])
                  go_wp2_with fail
                  refine ⟨⟨5, by omega, by go_num, fun j hj => ?_, HB6.out⟩, by first | omega | (simp [intOf]; done) | (simp [intOf]; omega)⟩
                  by_cases e : j = 4
                  · subst e; exact HF.out
                  · exact HNO.out j (by omega)
                | true =>
                  go_wp2_with fail
                  refine (HTK.out _).mono ?_
                  rintro e w7 ⟨rfl, hb7⟩
                  have HB7 := Lib.hid (HB6.out.trans (hb7.mono HB6.out.size))
                  have HX7 := Lib.hid ((hb7.block wr.heap.size (lt_of_block HX6.out)).trans HX6.out)
                  clear hb7 y0 y1 y2 y3 y4
                  have y0 : w7.cell? ⟨wr.heap.size, 0, none⟩ = some (.int .i64 4) := cell_of1' HX7.out 0
                  have y1 : w7.cell? ⟨wr.heap.size, 1, none⟩ = some (.int .u64 n0) := cell_of1' HX7.out 1
                  have y2 : w7.cell? ⟨wr.heap.size, 2, none⟩ = some (.int .i64 0) := cell_of1' HX7.out 2
                  have y3 : w7.cell? ⟨wr.heap.size, 3, none⟩ = some (.int .u64 0) := cell_of1' HX7.out 3
                  have y4 : w7.cell? ⟨wr.heap.size, 4, none⟩ = some (.int .u64 n2) := cell_of1' HX7.out 4
                  by_cases hts : TT = s
                  · have d1 : (TT.toList == s.toList) = true := by rw [hts]; simp
                    have HE := Lib.hid (readR_at (k := 4) HAL.out (by decide) HNO.out (by rw [HOK.out, decide_eq_true hts]; rfl))
                    rw [HX.out] at HE
                    clear hts
                    go_wp2_with (refine wpList_store_row rfl 24 _ _ rfl w.heap.size #[.int .i64 4, .int .u64 n0, .int .i64 0, .int .u64 0, .int .u64 n2] rfl rfl 24 #[.int .i64 0, .int .u64 0, .int .i64 0, .int .u64 0, .int .u64 0] (HZ3.out w7 HB7.out) infoA rfl (by simp [Value.oneCell']) ?_)
                    exact ⟨rfl, _, ret_a rfl (setRow_heap _ _ _ _ _ _ (HZ3.out w7 HB7.out)) rfl rfl, by rw [HE.out]; rfl, below_setRow (HBT3.out w7 HB7.out) (Nat.le_refl _) _⟩
                  · have d1 : ¬ (TT.toList == s.toList) = true := fun e => hts (by rw [toList_eq_iff] at e; exact of_decide_eq_true e)
                    have HF := Lib.hid (show okR s (t0 :: ts) 4 = false from by rw [HOK.out, decide_eq_false hts, Bool.and_false])
                    clear hts
                    go_wp2_with fail
                    refine ⟨⟨5, by omega, by go_num, fun j hj => ?_, HB7.out⟩, by first | omega | (simp [intOf]; done) | (simp [intOf]; omega)⟩
                    by_cases e : j = 4
                    · subst e; exact HF.out
                    · exact HNO.out j (by omega)
              · have hcc : cellR n1 = n1 := by unfold cellR; rw [if_neg hbig]
                have hb1 : decide (999999999999999999 < n1) = false := decide_eq_false hbig
                have hwz : IntKind.i64.wrap n1 = n1 := IntWalk.i64_in _ (by omega)
                have HX := Lib.hid (show build cellR (nAt (t0 :: ts)) 4 = ⟨4, n0, n1, 0, n2⟩ from by 
                  have hq : cellR (nAt (t0 :: ts) 1) = n1 := by rw [← HE1.out]; exact hcc
                  unfold build
                  rw [hq, ← HE0.out, ← HE2.out]
                  try rfl)
                have HTK := Lib.hid (fun (W : World) => HTX.out W 4)
                have HRK := Lib.hid (fun (W : World) => HRR.out W 4)
                rw [HX.out] at HTK HRK
                unfold encA cellsA at HTK HRK
                dsimp only at HTK HRK
                obtain ⟨TT, hTT⟩ : ∃ x, x = ba (textA ⟨4, n0, n1, 0, n2⟩) := ⟨_, rfl⟩
                obtain ⟨rr, hrr⟩ : ∃ x, x = rightA ⟨4, n0, n1, 0, n2⟩ := ⟨_, rfl⟩
                rw [← hTT] at HTK
                rw [← hrr] at HRK
                have HOK := Lib.hid (show okR s (t0 :: ts) 4 = (rr && decide (TT = s)) from by
                  unfold okR
                  rw [HX.out, hTT, hrr]
                  congr 1
                  rw [Bool.eq_iff_iff, decide_eq_true_eq, decide_eq_true_eq]
                  exact ⟨fun h => ba_ext (by rw [ba_data]; exact h), fun h => by rw [← h, ba_data]⟩)
                clear hTT hrr
                go_wp2_with fail
                clear x0 x1 x2 x3
                have HBX := Lib.hid (show Below w3.heap.size w3 (wr.alloc (.cells #[.int .i64 4, .int .u64 n0, .int .i64 n1, .int .u64 0, .int .u64 n2] 24)) from HB.out.alloc HB.out.size _)
                refine (HRK.out _).mono ?_
                rintro e w6 ⟨rfl, hb6⟩
                have HB6 := Lib.hid (HBX.out.trans (hb6.mono HBX.out.size))
                have HX6 := Lib.hid (show w6.heap[wr.heap.size]? = some (.cells #[.int .i64 4, .int .u64 n0, .int .i64 n1, .int .u64 0, .int .u64 n2] 24 (0, 0)) from (hb6.block wr.heap.size (by simp)).trans (heap_alloc_new wr _))
                clear hb6
                have y0 : w6.cell? ⟨wr.heap.size, 0, none⟩ = some (.int .i64 4) := cell_of1' HX6.out 0
                have y1 : w6.cell? ⟨wr.heap.size, 1, none⟩ = some (.int .u64 n0) := cell_of1' HX6.out 1
                have y2 : w6.cell? ⟨wr.heap.size, 2, none⟩ = some (.int .i64 n1) := cell_of1' HX6.out 2
                have y3 : w6.cell? ⟨wr.heap.size, 3, none⟩ = some (.int .u64 0) := cell_of1' HX6.out 3
                have y4 : w6.cell? ⟨wr.heap.size, 4, none⟩ = some (.int .u64 n2) := cell_of1' HX6.out 4
                cases rr with
                | false =>
                  have HF := Lib.hid (show okR s (t0 :: ts) 4 = false from by rw [HOK.out, Bool.false_and])
                  go_wp2_with fail
                  refine ⟨⟨5, by omega, by go_num, fun j hj => ?_, HB6.out⟩, by first | omega | (simp [intOf]; done) | (simp [intOf]; omega)⟩
                  by_cases e : j = 4
                  · subst e; exact HF.out
                  · exact HNO.out j (by omega)
                | true =>
                  go_wp2_with fail
                  refine (HTK.out _).mono ?_
                  rintro e w7 ⟨rfl, hb7⟩
                  have HB7 := Lib.hid (HB6.out.trans (hb7.mono HB6.out.size))
                  have HX7 := Lib.hid ((hb7.block wr.heap.size (lt_of_block HX6.out)).trans HX6.out)
                  clear hb7 y0 y1 y2 y3 y4
                  have y0 : w7.cell? ⟨wr.heap.size, 0, none⟩ = some (.int .i64 4) := cell_of1' HX7.out 0
                  have y1 : w7.cell? ⟨wr.heap.size, 1, none⟩ = some (.int .u64 n0) := cell_of1' HX7.out 1
                  have y2 : w7.cell? ⟨wr.heap.size, 2, none⟩ = some (.int .i64 n1) := cell_of1' HX7.out 2
                  have y3 : w7.cell? ⟨wr.heap.size, 3, none⟩ = some (.int .u64 0) := cell_of1' HX7.out 3
                  have y4 : w7.cell? ⟨wr.heap.size, 4, none⟩ = some (.int .u64 n2) := cell_of1' HX7.out 4
                  by_cases hts : TT = s
                  · have d1 : (TT.toList == s.toList) = true := by rw [hts]; simp
                    have HE := Lib.hid (readR_at (k := 4) HAL.out (by decide) HNO.out (by rw [HOK.out, decide_eq_true hts]; rfl))
                    rw [HX.out] at HE
                    clear hts
                    go_wp2_with (refine wpList_store_row rfl 24 _ _ rfl w.heap.size #[.int .i64 4, .int .u64 n0, .int .i64 n1, .int .u64 0, .int .u64 n2] rfl rfl 24 #[.int .i64 0, .int .u64 0, .int .i64 0, .int .u64 0, .int .u64 0] (HZ3.out w7 HB7.out) infoA rfl (by simp [Value.oneCell']) ?_)
                    exact ⟨rfl, _, ret_a rfl (setRow_heap _ _ _ _ _ _ (HZ3.out w7 HB7.out)) rfl rfl, by rw [HE.out]; rfl, below_setRow (HBT3.out w7 HB7.out) (Nat.le_refl _) _⟩
                  · have d1 : ¬ (TT.toList == s.toList) = true := fun e => hts (by rw [toList_eq_iff] at e; exact of_decide_eq_true e)
                    have HF := Lib.hid (show okR s (t0 :: ts) 4 = false from by rw [HOK.out, decide_eq_false hts, Bool.and_false])
                    clear hts
                    go_wp2_with fail
                    refine ⟨⟨5, by omega, by go_num, fun j hj => ?_, HB7.out⟩, by first | omega | (simp [intOf]; done) | (simp [intOf]; omega)⟩
                    by_cases e : j = 4
                    · subst e; exact HF.out
                    · exact HNO.out j (by omega)
            · have x0 : wr.cell? ⟨gn, 0, none⟩ = some (.int .u64 n0) := by rw [HE0.out]; exact HCW.out wr HB.out 0 (by decide)
              have x1 : wr.cell? ⟨gn, 1, none⟩ = some (.int .u64 n1) := by rw [HE1.out]; exact HCW.out wr HB.out 1 (by decide)
              have x2 : wr.cell? ⟨gn, 2, none⟩ = some (.int .u64 n2) := by rw [HE2.out]; exact HCW.out wr HB.out 2 (by decide)
              have x3 : wr.cell? ⟨gn, 3, none⟩ = some (.int .u64 n3) := by rw [HE3.out]; exact HCW.out wr HB.out 3 (by decide)
              have hgw : gn < wr.heap.size := by omega
              by_cases hbig : 999999999999999999 < n0
              · have hcc : cellR n0 = 0 := by unfold cellR; rw [if_pos hbig]
                have hb1 : decide (999999999999999999 < n0) = true := decide_eq_true hbig
                have HX := Lib.hid (show build cellR (nAt (t0 :: ts)) 5 = ⟨5, 0, 0, 0, 0⟩ from by 
                  have hq : cellR (nAt (t0 :: ts) 0) = 0 := by rw [← HE0.out]; exact hcc
                  unfold build
                  rw [hq]
                  try rfl)
                have HTK := Lib.hid (fun (W : World) => HTX.out W 5)
                have HRK := Lib.hid (fun (W : World) => HRR.out W 5)
                rw [HX.out] at HTK HRK
                unfold encA cellsA at HTK HRK
                dsimp only at HTK HRK
                obtain ⟨TT, hTT⟩ : ∃ x, x = ba (textA ⟨5, 0, 0, 0, 0⟩) := ⟨_, rfl⟩
                obtain ⟨rr, hrr⟩ : ∃ x, x = rightA ⟨5, 0, 0, 0, 0⟩ := ⟨_, rfl⟩
                rw [← hTT] at HTK
                rw [← hrr] at HRK
                have HOK := Lib.hid (show okR s (t0 :: ts) 5 = (rr && decide (TT = s)) from by
                  unfold okR
                  rw [HX.out, hTT, hrr]
                  congr 1
                  rw [Bool.eq_iff_iff, decide_eq_true_eq, decide_eq_true_eq]
                  exact ⟨fun h => ba_ext (by rw [ba_data]; exact h), fun h => by rw [← h, ba_data]⟩)
                clear hTT hrr
                go_wp2_with fail
                clear x0 x1 x2 x3
                have HBX := Lib.hid (show Below w3.heap.size w3 (wr.alloc (.cells #[.int .i64 5, .int .u64 0, .int .i64 0, .int .u64 0, .int .u64 0] 24)) from HB.out.alloc HB.out.size _)
                refine (HRK.out _).mono ?_
                rintro e w6 ⟨rfl, hb6⟩
                have HB6 := Lib.hid (HBX.out.trans (hb6.mono HBX.out.size))
                have HX6 := Lib.hid (show w6.heap[wr.heap.size]? = some (.cells #[.int .i64 5, .int .u64 0, .int .i64 0, .int .u64 0, .int .u64 0] 24 (0, 0)) from (hb6.block wr.heap.size (by simp)).trans (heap_alloc_new wr _))
                clear hb6
                have y0 : w6.cell? ⟨wr.heap.size, 0, none⟩ = some (.int .i64 5) := cell_of1' HX6.out 0
                have y1 : w6.cell? ⟨wr.heap.size, 1, none⟩ = some (.int .u64 0) := cell_of1' HX6.out 1
                have y2 : w6.cell? ⟨wr.heap.size, 2, none⟩ = some (.int .i64 0) := cell_of1' HX6.out 2
                have y3 : w6.cell? ⟨wr.heap.size, 3, none⟩ = some (.int .u64 0) := cell_of1' HX6.out 3
                have y4 : w6.cell? ⟨wr.heap.size, 4, none⟩ = some (.int .u64 0) := cell_of1' HX6.out 4
                cases rr with
                | false =>
                  have HF := Lib.hid (show okR s (t0 :: ts) 5 = false from by rw [HOK.out, Bool.false_and])
                  go_wp2_with fail
                  refine ⟨⟨6, by omega, by go_num, fun j hj => ?_, HB6.out⟩, by first | omega | (simp [intOf]; done) | (simp [intOf]; omega)⟩
                  by_cases e : j = 5
                  · subst e; exact HF.out
                  · exact HNO.out j (by omega)
                | true =>
                  go_wp2_with fail
                  refine (HTK.out _).mono ?_
                  rintro e w7 ⟨rfl, hb7⟩
                  have HB7 := Lib.hid (HB6.out.trans (hb7.mono HB6.out.size))
                  have HX7 := Lib.hid ((hb7.block wr.heap.size (lt_of_block HX6.out)).trans HX6.out)
                  clear hb7 y0 y1 y2 y3 y4
                  have y0 : w7.cell? ⟨wr.heap.size, 0, none⟩ = some (.int .i64 5) := cell_of1' HX7.out 0
                  have y1 : w7.cell? ⟨wr.heap.size, 1, none⟩ = some (.int .u64 0) := cell_of1' HX7.out 1
                  have y2 : w7.cell? ⟨wr.heap.size, 2, none⟩ = some (.int .i64 0) := cell_of1' HX7.out 2
                  have y3 : w7.cell? ⟨wr.heap.size, 3, none⟩ = some (.int .u64 0) := cell_of1' HX7.out 3
                  have y4 : w7.cell? ⟨wr.heap.size, 4, none⟩ = some (.int .u64 0) := cell_of1' HX7.out 4
                  by_cases hts : TT = s
                  · have d1 : (TT.toList == s.toList) = true := by rw [hts]; simp
                    have HE := Lib.hid (readR_at (k := 5) HAL.out (by decide) HNO.out (by rw [HOK.out, decide_eq_true hts]; rfl))
                    rw [HX.out] at HE
                    clear hts
                    go_wp2_with (refine wpList_store_row rfl 24 _ _ rfl w.heap.size #[.int .i64 5, .int .u64 0, .int .i64 0, .int .u64 0, .int .u64 0] rfl rfl 24 #[.int .i64 0, .int .u64 0, .int .i64 0, .int .u64 0, .int .u64 0] (HZ3.out w7 HB7.out) infoA rfl (by simp [Value.oneCell']) ?_)
                    exact ⟨rfl, _, ret_a rfl (setRow_heap _ _ _ _ _ _ (HZ3.out w7 HB7.out)) rfl rfl, by rw [HE.out]; rfl, below_setRow (HBT3.out w7 HB7.out) (Nat.le_refl _) _⟩
                  · have d1 : ¬ (TT.toList == s.toList) = true := fun e => hts (by rw [toList_eq_iff] at e; exact of_decide_eq_true e)
                    have HF := Lib.hid (show okR s (t0 :: ts) 5 = false from by rw [HOK.out, decide_eq_false hts, Bool.and_false])
                    clear hts
                    go_wp2_with fail
                    refine ⟨⟨6, by omega, by go_num, fun j hj => ?_, HB7.out⟩, by first | omega | (simp [intOf]; done) | (simp [intOf]; omega)⟩
                    by_cases e : j = 5
                    · subst e; exact HF.out
                    · exact HNO.out j (by omega)
              · have hcc : cellR n0 = n0 := by unfold cellR; rw [if_neg hbig]
                have hb1 : decide (999999999999999999 < n0) = false := decide_eq_false hbig
                have hwz : IntKind.i64.wrap n0 = n0 := IntWalk.i64_in _ (by omega)
                have HX := Lib.hid (show build cellR (nAt (t0 :: ts)) 5 = ⟨5, 0, n0, 0, 0⟩ from by 
                  have hq : cellR (nAt (t0 :: ts) 0) = n0 := by rw [← HE0.out]; exact hcc
                  unfold build
                  rw [hq]
                  try rfl)
                have HTK := Lib.hid (fun (W : World) => HTX.out W 5)
                have HRK := Lib.hid (fun (W : World) => HRR.out W 5)
                rw [HX.out] at HTK HRK
                unfold encA cellsA at HTK HRK
                dsimp only at HTK HRK
                obtain ⟨TT, hTT⟩ : ∃ x, x = ba (textA ⟨5, 0, n0, 0, 0⟩) := ⟨_, rfl⟩
                obtain ⟨rr, hrr⟩ : ∃ x, x = rightA ⟨5, 0, n0, 0, 0⟩ := ⟨_, rfl⟩
                rw [← hTT] at HTK
                rw [← hrr] at HRK
                have HOK := Lib.hid (show okR s (t0 :: ts) 5 = (rr && decide (TT = s)) from by
                  unfold okR
                  rw [HX.out, hTT, hrr]
                  congr 1
                  rw [Bool.eq_iff_iff, decide_eq_true_eq, decide_eq_true_eq]
                  exact ⟨fun h => ba_ext (by rw [ba_data]; exact h), fun h => by rw [← h, ba_data]⟩)
                clear hTT hrr
                go_wp2_with fail
                clear x0 x1 x2 x3
                have HBX := Lib.hid (show Below w3.heap.size w3 (wr.alloc (.cells #[.int .i64 5, .int .u64 0, .int .i64 n0, .int .u64 0, .int .u64 0] 24)) from HB.out.alloc HB.out.size _)
                refine (HRK.out _).mono ?_
                rintro e w6 ⟨rfl, hb6⟩
                have HB6 := Lib.hid (HBX.out.trans (hb6.mono HBX.out.size))
                have HX6 := Lib.hid (show w6.heap[wr.heap.size]? = some (.cells #[.int .i64 5, .int .u64 0, .int .i64 n0, .int .u64 0, .int .u64 0] 24 (0, 0)) from (hb6.block wr.heap.size (by simp)).trans (heap_alloc_new wr _))
                clear hb6
                have y0 : w6.cell? ⟨wr.heap.size, 0, none⟩ = some (.int .i64 5) := cell_of1' HX6.out 0
                have y1 : w6.cell? ⟨wr.heap.size, 1, none⟩ = some (.int .u64 0) := cell_of1' HX6.out 1
                have y2 : w6.cell? ⟨wr.heap.size, 2, none⟩ = some (.int .i64 n0) := cell_of1' HX6.out 2
                have y3 : w6.cell? ⟨wr.heap.size, 3, none⟩ = some (.int .u64 0) := cell_of1' HX6.out 3
                have y4 : w6.cell? ⟨wr.heap.size, 4, none⟩ = some (.int .u64 0) := cell_of1' HX6.out 4
                cases rr with
                | false =>
                  have HF := Lib.hid (show okR s (t0 :: ts) 5 = false from by rw [HOK.out, Bool.false_and])
                  go_wp2_with fail
                  refine ⟨⟨6, by omega, by go_num, fun j hj => ?_, HB6.out⟩, by first | omega | (simp [intOf]; done) | (simp [intOf]; omega)⟩
                  by_cases e : j = 5
                  · subst e; exact HF.out
                  · exact HNO.out j (by omega)
                | true =>
                  go_wp2_with fail
                  refine (HTK.out _).mono ?_
                  rintro e w7 ⟨rfl, hb7⟩
                  have HB7 := Lib.hid (HB6.out.trans (hb7.mono HB6.out.size))
                  have HX7 := Lib.hid ((hb7.block wr.heap.size (lt_of_block HX6.out)).trans HX6.out)
                  clear hb7 y0 y1 y2 y3 y4
                  have y0 : w7.cell? ⟨wr.heap.size, 0, none⟩ = some (.int .i64 5) := cell_of1' HX7.out 0
                  have y1 : w7.cell? ⟨wr.heap.size, 1, none⟩ = some (.int .u64 0) := cell_of1' HX7.out 1
                  have y2 : w7.cell? ⟨wr.heap.size, 2, none⟩ = some (.int .i64 n0) := cell_of1' HX7.out 2
                  have y3 : w7.cell? ⟨wr.heap.size, 3, none⟩ = some (.int .u64 0) := cell_of1' HX7.out 3
                  have y4 : w7.cell? ⟨wr.heap.size, 4, none⟩ = some (.int .u64 0) := cell_of1' HX7.out 4
                  by_cases hts : TT = s
                  · have d1 : (TT.toList == s.toList) = true := by rw [hts]; simp
                    have HE := Lib.hid (readR_at (k := 5) HAL.out (by decide) HNO.out (by rw [HOK.out, decide_eq_true hts]; rfl))
                    rw [HX.out] at HE
                    clear hts
                    go_wp2_with (refine wpList_store_row rfl 24 _ _ rfl w.heap.size #[.int .i64 5, .int .u64 0, .int .i64 n0, .int .u64 0, .int .u64 0] rfl rfl 24 #[.int .i64 0, .int .u64 0, .int .i64 0, .int .u64 0, .int .u64 0] (HZ3.out w7 HB7.out) infoA rfl (by simp [Value.oneCell']) ?_)
                    exact ⟨rfl, _, ret_a rfl (setRow_heap _ _ _ _ _ _ (HZ3.out w7 HB7.out)) rfl rfl, by rw [HE.out]; rfl, below_setRow (HBT3.out w7 HB7.out) (Nat.le_refl _) _⟩
                  · have d1 : ¬ (TT.toList == s.toList) = true := fun e => hts (by rw [toList_eq_iff] at e; exact of_decide_eq_true e)
                    have HF := Lib.hid (show okR s (t0 :: ts) 5 = false from by rw [HOK.out, decide_eq_false hts, Bool.and_false])
                    clear hts
                    go_wp2_with fail
                    refine ⟨⟨6, by omega, by go_num, fun j hj => ?_, HB7.out⟩, by first | omega | (simp [intOf]; done) | (simp [intOf]; omega)⟩
                    by_cases e : j = 5
                    · subst e; exact HF.out
                    · exact HNO.out j (by omega)
            · have x0 : wr.cell? ⟨gn, 0, none⟩ = some (.int .u64 n0) := by rw [HE0.out]; exact HCW.out wr HB.out 0 (by decide)
              have x1 : wr.cell? ⟨gn, 1, none⟩ = some (.int .u64 n1) := by rw [HE1.out]; exact HCW.out wr HB.out 1 (by decide)
              have x2 : wr.cell? ⟨gn, 2, none⟩ = some (.int .u64 n2) := by rw [HE2.out]; exact HCW.out wr HB.out 2 (by decide)
              have x3 : wr.cell? ⟨gn, 3, none⟩ = some (.int .u64 n3) := by rw [HE3.out]; exact HCW.out wr HB.out 3 (by decide)
              have hgw : gn < wr.heap.size := by omega
              have HX := Lib.hid (show build cellR (nAt (t0 :: ts)) 6 = ⟨6, n0, 0, 0, 0⟩ from by rw [HE0.out]; rfl)
              have HTK := Lib.hid (fun (W : World) => HTX.out W 6)
              have HRK := Lib.hid (fun (W : World) => HRR.out W 6)
              rw [HX.out] at HTK HRK
              unfold encA cellsA at HTK HRK
              dsimp only at HTK HRK
              obtain ⟨TT, hTT⟩ : ∃ x, x = ba (textA ⟨6, n0, 0, 0, 0⟩) := ⟨_, rfl⟩
              obtain ⟨rr, hrr⟩ : ∃ x, x = rightA ⟨6, n0, 0, 0, 0⟩ := ⟨_, rfl⟩
              rw [← hTT] at HTK
              rw [← hrr] at HRK
              have HOK := Lib.hid (show okR s (t0 :: ts) 6 = (rr && decide (TT = s)) from by
                unfold okR
                rw [HX.out, hTT, hrr]
                congr 1
                rw [Bool.eq_iff_iff, decide_eq_true_eq, decide_eq_true_eq]
                exact ⟨fun h => ba_ext (by rw [ba_data]; exact h), fun h => by rw [← h, ba_data]⟩)
              clear hTT hrr
              go_wp2_with fail
              clear x0 x1 x2 x3
              have HBX := Lib.hid (show Below w3.heap.size w3 (wr.alloc (.cells #[.int .i64 6, .int .u64 n0, .int .i64 0, .int .u64 0, .int .u64 0] 24)) from HB.out.alloc HB.out.size _)
              refine (HRK.out _).mono ?_
              rintro e w6 ⟨rfl, hb6⟩
              have HB6 := Lib.hid (HBX.out.trans (hb6.mono HBX.out.size))
              have HX6 := Lib.hid (show w6.heap[wr.heap.size]? = some (.cells #[.int .i64 6, .int .u64 n0, .int .i64 0, .int .u64 0, .int .u64 0] 24 (0, 0)) from (hb6.block wr.heap.size (by simp)).trans (heap_alloc_new wr _))
              clear hb6
              have y0 : w6.cell? ⟨wr.heap.size, 0, none⟩ = some (.int .i64 6) := cell_of1' HX6.out 0
              have y1 : w6.cell? ⟨wr.heap.size, 1, none⟩ = some (.int .u64 n0) := cell_of1' HX6.out 1
              have y2 : w6.cell? ⟨wr.heap.size, 2, none⟩ = some (.int .i64 0) := cell_of1' HX6.out 2
              have y3 : w6.cell? ⟨wr.heap.size, 3, none⟩ = some (.int .u64 0) := cell_of1' HX6.out 3
              have y4 : w6.cell? ⟨wr.heap.size, 4, none⟩ = some (.int .u64 0) := cell_of1' HX6.out 4
              cases rr with
              | false =>
                have HF := Lib.hid (show okR s (t0 :: ts) 6 = false from by rw [HOK.out, Bool.false_and])
                go_wp2_with fail
                refine ⟨⟨7, by omega, by go_num, fun j hj => ?_, HB6.out⟩, by first | omega | (simp [intOf]; done) | (simp [intOf]; omega)⟩
                by_cases e : j = 6
                · subst e; exact HF.out
                · exact HNO.out j (by omega)
              | true =>
                go_wp2_with fail
                refine (HTK.out _).mono ?_
                rintro e w7 ⟨rfl, hb7⟩
                have HB7 := Lib.hid (HB6.out.trans (hb7.mono HB6.out.size))
                have HX7 := Lib.hid ((hb7.block wr.heap.size (lt_of_block HX6.out)).trans HX6.out)
                clear hb7 y0 y1 y2 y3 y4
                have y0 : w7.cell? ⟨wr.heap.size, 0, none⟩ = some (.int .i64 6) := cell_of1' HX7.out 0
                have y1 : w7.cell? ⟨wr.heap.size, 1, none⟩ = some (.int .u64 n0) := cell_of1' HX7.out 1
                have y2 : w7.cell? ⟨wr.heap.size, 2, none⟩ = some (.int .i64 0) := cell_of1' HX7.out 2
                have y3 : w7.cell? ⟨wr.heap.size, 3, none⟩ = some (.int .u64 0) := cell_of1' HX7.out 3
                have y4 : w7.cell? ⟨wr.heap.size, 4, none⟩ = some (.int .u64 0) := cell_of1' HX7.out 4
                by_cases hts : TT = s
                · have d1 : (TT.toList == s.toList) = true := by rw [hts]; simp
                  have HE := Lib.hid (readR_at (k := 6) HAL.out (by decide) HNO.out (by rw [HOK.out, decide_eq_true hts]; rfl))
                  rw [HX.out] at HE
                  clear hts
                  go_wp2_with (refine wpList_store_row rfl 24 _ _ rfl w.heap.size #[.int .i64 6, .int .u64 n0, .int .i64 0, .int .u64 0, .int .u64 0] rfl rfl 24 #[.int .i64 0, .int .u64 0, .int .i64 0, .int .u64 0, .int .u64 0] (HZ3.out w7 HB7.out) infoA rfl (by simp [Value.oneCell']) ?_)
                  exact ⟨rfl, _, ret_a rfl (setRow_heap _ _ _ _ _ _ (HZ3.out w7 HB7.out)) rfl rfl, by rw [HE.out]; rfl, below_setRow (HBT3.out w7 HB7.out) (Nat.le_refl _) _⟩
                · have d1 : ¬ (TT.toList == s.toList) = true := fun e => hts (by rw [toList_eq_iff] at e; exact of_decide_eq_true e)
                  have HF := Lib.hid (show okR s (t0 :: ts) 6 = false from by rw [HOK.out, decide_eq_false hts, Bool.and_false])
                  clear hts
                  go_wp2_with fail
                  refine ⟨⟨7, by omega, by go_num, fun j hj => ?_, HB7.out⟩, by first | omega | (simp [intOf]; done) | (simp [intOf]; omega)⟩
                  by_cases e : j = 6
                  · subst e; exact HF.out
                  · exact HNO.out j (by omega)
end Go.Proofs.YtdibkhddhgaghaaDoor.Ac
