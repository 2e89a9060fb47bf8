/- order: maps, the maps behind 0, 1, 2 .. of an order's calls; and Map. -/
import Derived.Test.YtdhgacionopghaaGreatDoorOrdDo
import Derived.Maps.AppendAt
namespace Go.Proofs.YtdhgacionopghaaGreatDoor.Od
open Go.RowKit Go.Shelf Dc DcM DcW DcI DcR DcL Sp
set_option linter.unusedVariables false
theorem infoL : (Tryz.prog.info? 38).map (fun i => (i.zero, i.size, i.bytes)) = some (some (.slice none 0 0), 1, 24) := by kernel_rfl
set_option maxRecDepth 100000 in
set_option maxHeartbeats 8000000 in
theorem step_owns (w : World) (v : Value) (m : List Pr) (c : CallL) (pv : Value) {b0 : Nat} (hr0 : w.ownsRow b0 74 2 v m.length (cellsP m)) (hs : Sorted m) (hl : m.length < 99999) (hz : c.op.key.size ≤ maxLen ∧ c.op.value.size ≤ maxLen) :
    Calls Tryz.prog 31 #[v, .agg #[.int .i64 c.thread, .int .i64 c.index, .int .i64 c.op.kind, .string c.op.key, .string c.op.value, .string c.op.old, .int .i64 c.begin_, .int .i64 c.end_, .bool c.done, .int .i64 c.reply.err, .bool c.reply.had, .bool c.reply.did, .string c.reply.value, .int .i64 c.reply.n, pv]] w fun e w' => ∃ v', e = .returned v' ∧ w'.ownsRow 0 74 2 v' (stepM m c).length (cellsP (stepM m c)) ∧ Below w.heap.size w w' := by
  obtain ⟨ct, ci, ⟨ok, okey, oval, oold⟩, cb, ce, cd, ⟨re, rh, rd, rv, rn, rp⟩⟩ := c
  dsimp only at hz ⊢
  obtain ⟨W1, hW1⟩ : ∃ W, W = w.alloc (.cells #[.int .i64 ct, .int .i64 ci, .int .i64 ok, .string okey, .string oval, .string oold, .int .i64 cb, .int .i64 ce, .bool cd, .int .i64 re, .bool rh, .bool rd, .string rv, .int .i64 rn, pv] 44) := ⟨_, rfl⟩
  have hb1 : Below w.heap.size w W1 := by rw [hW1]; exact (Below.refl _ _).alloc (Nat.le_refl _) _
  have HP := Lib.hid (Prs.of_owns hr0)
  have hr1 : W1.ownsRow 0 74 2 v m.length (cellsP m) := row_base (owns_kept hr0 fun k cs f hk => hb1.block k (Array.getElem?_eq_some_iff.1 hk).1) (Nat.zero_le _)
  have HR1 := Lib.hid hr1
  have HS := Lib.hid hs
  have HZ := Lib.hid hz
  have HW := Lib.hid hW1
  have B1 := Lib.hid hb1
  clear hr0 hr1 hs hz hW1 hb1
  cases cd with
  | false =>
    have HD := Lib.hid (show stepM m ⟨ct, ci, ⟨ok, okey, oval, oold⟩, cb, ce, false, ⟨re, rh, rd, rv, rn, rp⟩⟩ = doM m ⟨ok, okey, oval, oold⟩ by unfold stepM; simp [])
    rw [HD.out]
    go_enter Tryz.func31, Tryz.ntmps31
    go_wp2_with fail
    rw [← HW.out]
    refine (do_owns W1 v m (HP.out.below B1.out) HS.out hl ok okey oval oold HZ.out).mono ?_
    obtain ⟨r, hr⟩ : ∃ r, r = doR m ⟨ok, okey, oval, oold⟩ := ⟨_, rfl⟩
    rw [← hr]
    clear hr
    unfold repC
    rintro e w2 ⟨v2, p2, rfl, hn2, hq2, hb2⟩
    obtain ⟨A2, c2, e2, _⟩ := hq2
    subst e2
    have N2 := Lib.hid hn2
    have B2 := Lib.hid (B1.out.trans (hb2.mono B1.out.size))
    clear hn2 hb2
    dsimp only
    go_wp2_with fail
    go_ret
    exact ⟨_, rfl, row_base (N2.out.alloc _) (Nat.zero_le _), B2.out.alloc B2.out.size _⟩
  | true =>
    by_cases h10 : re = 10
    · subst h10
      have HD := Lib.hid (show stepM m ⟨ct, ci, ⟨ok, okey, oval, oold⟩, cb, ce, true, ⟨10, rh, rd, rv, rn, rp⟩⟩ = m by unfold stepM; simp)
      rw [HD.out]
      go_enter Tryz.func31, Tryz.ntmps31
      go_wp2_with fail
      rw [← HW.out]
      go_ret
      exact ⟨_, rfl, HR1.out, B1.out⟩
    · have hb10 : (re == 10) = false := by rw [beq_eq_false_iff_ne]; exact h10
      have HD := Lib.hid (show stepM m ⟨ct, ci, ⟨ok, okey, oval, oold⟩, cb, ce, true, ⟨re, rh, rd, rv, rn, rp⟩⟩ = doM m ⟨ok, okey, oval, oold⟩ by unfold stepM; simp [h10])
      rw [HD.out]
      go_enter Tryz.func31, Tryz.ntmps31
      go_wp2_with fail
      rw [← HW.out]
      refine (do_owns W1 v m (HP.out.below B1.out) HS.out hl ok okey oval oold HZ.out).mono ?_
      obtain ⟨r, hr⟩ : ∃ r, r = doR m ⟨ok, okey, oval, oold⟩ := ⟨_, rfl⟩
      rw [← hr]
      clear hr
      unfold repC
      rintro e w2 ⟨v2, p2, rfl, hn2, hq2, hb2⟩
      obtain ⟨A2, c2, e2, _⟩ := hq2
      subst e2
      have N2 := Lib.hid hn2
      have B2 := Lib.hid (B1.out.trans (hb2.mono B1.out.size))
      clear hn2 hb2
      dsimp only
      go_wp2_with fail
      go_ret
      exact ⟨_, rfl, row_base (N2.out.alloc _) (Nat.zero_le _), B2.out.alloc B2.out.size _⟩

/-- The maps behind 0, 1 .. calls, in a world. -/
def Mps (w : World) (l : List CV) (row : List Int) (k : Nat) (vs : List Value) : Prop := vs.length = k + 1 ∧ ∀ j u, vs[j]? = some u → w.ownsRow 0 74 2 u (behindM l (row.take j)).length (cellsP (behindM l (row.take j)))
theorem Mps.kept {w w' : World} {l : List CV} {row : List Int} {k : Nat} {vs : List Value} (h : Mps w l row k vs) (hb : ∀ (b : Nat) (cs : Array Value) (f : Nat × Nat), w.heap[b]? = some (.cells cs 74 f) → w'.heap[b]? = w.heap[b]?) : Mps w' l row k vs := ⟨h.1, fun j u hu => owns_kept (h.2 j u hu) hb⟩
theorem Mps.below {w w' : World} {l : List CV} {row : List Int} {k : Nat} {vs : List Value} (h : Mps w l row k vs) (hb : Below w.heap.size w w') : Mps w' l row k vs := h.kept fun b cs f hk => hb.block b (Array.getElem?_eq_some_iff.1 hk).1
theorem Mps.snoc {w : World} {l : List CV} {row : List Int} {k : Nat} {vs : List Value} {u : Value} (h : Mps w l row k vs) (hu : w.ownsRow 0 74 2 u (behindM l (row.take (k + 1))).length (cellsP (behindM l (row.take (k + 1))))) : Mps w l row (k + 1) (vs ++ [u]) := by
  refine ⟨by simp [h.1], fun j x hx => ?_⟩
  by_cases hj : j < k + 1
  · rw [List.getElem?_append_left (by rw [h.1]; exact hj)] at hx
    exact h.2 j x hx
  · rw [List.getElem?_append_right (by rw [h.1]; omega), h.1] at hx
    have hlt := (List.getElem?_eq_some_iff.1 hx).1
    simp at hlt
    have e : j = k + 1 := by omega
    subst e
    simp at hx
    subst hx
    exact hu
/-- a row of pairs lies on behind the growth of a row of another type -/
theorem grown_row {w w' : World} {tmp : Obj} {n0 n : Nat} {e : TypeId} {size k : Nat} {v x : Value} {xs ys : List Value} (hg : (w.alloc tmp).grownBy w' v.ownBlock) (hv : w.ownsRow n0 e size v k xs) (he : e ≠ 74) :
    ∀ (b : Nat) (cs : Array Value) (f : Nat × Nat), w.heap[b]? = some (.cells cs 74 f) → w'.heap[b]? = w.heap[b]? := fun b cs f hb => by
  have hlt := (Array.getElem?_eq_some_iff.1 hb).1
  refine (hg.block b (by simp; omega) fun e' => ?_).trans (Below.heap_alloc _ _ _ hlt)
  obtain ⟨_, ⟨rfl, _⟩ | ⟨g, cap, cur, rfl, _, hh, _⟩⟩ := hv
  · cases e'
  · obtain rfl : b = g := by simpa [Value.ownBlock] using e'
    rw [hb] at hh
    injection hh with hh
    injection hh with _ ht
    exact he ht.symm
set_option maxRecDepth 100000 in
set_option maxHeartbeats 16000000 in
theorem maps_any (w : World) (v u : Value) (l : List CV) (row : List Int) (h : Cls w v l) (h' : Its w u row) (hn : l.length < 1000000) (hn' : row.length < 10000) :
    Calls Tryz.prog 72 #[v, u] w fun e w' => ∃ v' vs, e = .returned v' ∧ w'.ownsRow w.heap.size 38 1 v' (row.length + 1) vs ∧ Mps w' l row row.length vs ∧ Below w.heap.size w w' := by
  obtain ⟨i0, hi, hz0, hz1, hz2⟩ := info_parts infoL
  have HL := Lib.hid h
  obtain ⟨A, cap, rfl, hc⟩ := h
  obtain ⟨B, capB, rfl, _, hc'⟩ := h'
  have HC := Lib.hid hc
  have HC' := Lib.hid hc'
  clear hc hc'
  go_enter Tryz.func72, Tryz.ntmps72
  go_wp2_with fail
  go_loopw [5, 12] (fun ov i wr => ∃ (k : Nat) (vs : List Value), k ≤ row.length ∧ i = .int .i64 k ∧ wr.ownsRow w.heap.size 38 1 ov (k + 1) vs ∧ Mps wr l row k vs ∧ Below w.heap.size w wr) (fun _ i _ => row.length - (intOf i).toNat)
  case atStart =>
    refine ⟨0, [.slice none 0 0], Nat.zero_le _, rfl, ?_, ⟨rfl, fun j x hx => ?_⟩, (Below.refl _ _).alloc (Nat.le_refl _) _⟩
    · exact World.ownsRow_lit (base := w.heap.size) (e := 38) (size := 1) w #[.slice none 0 0] 1 (Nat.le_refl _) (by decide) rfl
    · match j, hx with
      | 0, hx => simp at hx; subst hx; exact World.ownsRow_nil _ _ _ _
  case round =>
    obtain ⟨k, vs, hk, rfl, hrow, hmp, hB⟩ := hrel
    obtain ⟨g, capo, rfl⟩ := ownsRow_succ hrow
    by_cases hp : k < row.length
    · obtain ⟨a, ha⟩ : ∃ a, row[k]? = some a := ⟨_, List.getElem?_eq_getElem hp⟩
      obtain ⟨b, z, rfl, hbl, hcell⟩ := HC'.out k a ha
      have hcell' := (hB.cell (p := ⟨b, z + k, none⟩) hbl).trans hcell
      obtain ⟨x, hx⟩ : ∃ x, vs[k]? = some x := ⟨_, List.getElem?_eq_getElem (by rw [hmp.1]; omega)⟩
      have hpx := hmp.2 k x hx
      obtain ⟨Ax, cx, ex⟩ := owns_shape hpx
      have hcx : wr.cell? ⟨g, k, none⟩ = some x := by rw [← add0]; exact hrow.cells (g := g) rfl k x hx
      subst ex
      have HSN := Lib.hid (behind_snoc (l := l) ha)
      have HSO := Lib.hid (sorted_behind l (row.take k) [] List.Pairwise.nil)
      have HLN := Lib.hid (show (behindM l (row.take k)).length ≤ k from Nat.le_trans (length_behind l (row.take k) [] List.Pairwise.nil) (by simp; omega))
      have HPX := Lib.hid hpx
      have HMP := Lib.hid hmp
      have HB := Lib.hid hB
      have hsz := hB.size
      clear ha hcell hx hpx hmp
      go_wp2_with fail
      refine (mapped_any _ _ l a (HL.out.below HB.out) hn).mono ?_
      cases hm : mappedB l a with
      | false =>
        rintro e w1 ⟨rfl, hw1⟩
        subst hw1
        have HE := Lib.hid (show behindM l (row.take (k + 1)) = behindM l (row.take k) by rw [HSN.out]; unfold stepAt; rw [hm]; rfl)
        clear hm hB
        go_wp2_with (at_builtin; refine wpList_append_own _ rfl _ _ 112 rfl w.heap.size 38 i0 (.slice none 0 0) 1 24 Tryz.underlying112 hi hz0 hz1 hz2 rfl (by decide) _ _ _ rfl (hrow.alloc _) _ 1 1 [.slice Ax (behindM l (row.take k)).length cx] rfl rfl (cell_one_new _ _ _) (by simp [Value.oneCell']) (by simp [maxLen]; omega) (by omega) (by simp; omega) ?_; intro v9 w9 hown9 hgrow9 hnil9; have HO := Lib.hid hown9; have HG := Lib.hid hgrow9; clear hown9 hgrow9 hnil9)
        have hk9 := grown_row (x := .slice none 0 0) (n := 0) (ys := []) HG.out hrow (by decide)
        exact ⟨⟨k + 1, vs ++ [.slice Ax (behindM l (row.take k)).length cx], by omega, by go_num, HO.out, (HMP.out.kept hk9).snoc (by rw [HE.out]; exact owns_kept HPX.out hk9), (HB.out.alloc hsz _).grown HG.out (by simp; omega) (fun gg hgg => (World.ownsRow.lt hrow gg hgg).1)⟩, by show row.length - ((k : Int) + 1).toNat < row.length - (k : Int).toNat; omega⟩
      | true =>
        rintro e w1 ⟨rfl, hw1⟩
        subst hw1
        obtain ⟨n, q, rfl, hnl, hq⟩ := mapped_at hm
        obtain ⟨hpq, s1, s2, s3, s4, b2, z2, rfl, hbl2, hcell2⟩ := HC.out n q hq
        have k0 : w1.cell? ⟨b2, z2 + n * 15, none⟩ = some (.int .i64 q.1.thread) := (hB.cell (p := ⟨b2, z2 + n * 15, none⟩) hbl2).trans (hcell2 0 _ rfl)
        have k1 : w1.cell? ⟨b2, z2 + n * 15 + 1, none⟩ = some (.int .i64 q.1.index) := (hB.cell (p := ⟨b2, z2 + n * 15 + 1, none⟩) hbl2).trans (hcell2 1 _ rfl)
        have k2 : w1.cell? ⟨b2, z2 + n * 15 + 2, none⟩ = some (.int .i64 q.1.op.kind) := (hB.cell (p := ⟨b2, z2 + n * 15 + 2, none⟩) hbl2).trans (hcell2 2 _ rfl)
        have k3 : w1.cell? ⟨b2, z2 + n * 15 + 3, none⟩ = some (.string q.1.op.key) := (hB.cell (p := ⟨b2, z2 + n * 15 + 3, none⟩) hbl2).trans (hcell2 3 _ rfl)
        have k4 : w1.cell? ⟨b2, z2 + n * 15 + 4, none⟩ = some (.string q.1.op.value) := (hB.cell (p := ⟨b2, z2 + n * 15 + 4, none⟩) hbl2).trans (hcell2 4 _ rfl)
        have k5 : w1.cell? ⟨b2, z2 + n * 15 + 5, none⟩ = some (.string q.1.op.old) := (hB.cell (p := ⟨b2, z2 + n * 15 + 5, none⟩) hbl2).trans (hcell2 5 _ rfl)
        have k6 : w1.cell? ⟨b2, z2 + n * 15 + 6, none⟩ = some (.int .i64 q.1.begin_) := (hB.cell (p := ⟨b2, z2 + n * 15 + 6, none⟩) hbl2).trans (hcell2 6 _ rfl)
        have k7 : w1.cell? ⟨b2, z2 + n * 15 + 7, none⟩ = some (.int .i64 q.1.end_) := (hB.cell (p := ⟨b2, z2 + n * 15 + 7, none⟩) hbl2).trans (hcell2 7 _ rfl)
        have k8 : w1.cell? ⟨b2, z2 + n * 15 + 8, none⟩ = some (.bool q.1.done) := (hB.cell (p := ⟨b2, z2 + n * 15 + 8, none⟩) hbl2).trans (hcell2 8 _ rfl)
        have k9 : w1.cell? ⟨b2, z2 + n * 15 + 9, none⟩ = some (.int .i64 q.1.reply.err) := (hB.cell (p := ⟨b2, z2 + n * 15 + 9, none⟩) hbl2).trans (hcell2 9 _ rfl)
        have k10 : w1.cell? ⟨b2, z2 + n * 15 + 10, none⟩ = some (.bool q.1.reply.had) := (hB.cell (p := ⟨b2, z2 + n * 15 + 10, none⟩) hbl2).trans (hcell2 10 _ rfl)
        have k11 : w1.cell? ⟨b2, z2 + n * 15 + 11, none⟩ = some (.bool q.1.reply.did) := (hB.cell (p := ⟨b2, z2 + n * 15 + 11, none⟩) hbl2).trans (hcell2 11 _ rfl)
        have k12 : w1.cell? ⟨b2, z2 + n * 15 + 12, none⟩ = some (.string q.1.reply.value) := (hB.cell (p := ⟨b2, z2 + n * 15 + 12, none⟩) hbl2).trans (hcell2 12 _ rfl)
        have k13 : w1.cell? ⟨b2, z2 + n * 15 + 13, none⟩ = some (.int .i64 q.1.reply.n) := (hB.cell (p := ⟨b2, z2 + n * 15 + 13, none⟩) hbl2).trans (hcell2 13 _ rfl)
        have k14 : w1.cell? ⟨b2, z2 + n * 15 + 14, none⟩ = some (q.2) := (hB.cell (p := ⟨b2, z2 + n * 15 + 14, none⟩) hbl2).trans (hcell2 14 _ rfl)
        have HE := Lib.hid (show behindM l (row.take (k + 1)) = stepM (behindM l (row.take k)) q.1 by rw [HSN.out]; unfold stepAt; rw [hm, Int.toNat_natCast, hq]; rfl)
        have HZ := Lib.hid (And.intro s2 s3)
        clear hm hq hpq hcell2 hB s1 s2 s3 s4
        go_wp2_with fail
        refine (step_owns w1 _ (behindM l (row.take k)) q.1 q.2 HPX.out HSO.out (by have := HLN.out; omega) HZ.out).mono ?_
        rintro e w3 ⟨v3, rfl, hr3, hb3⟩
        obtain ⟨A3, c3, e3⟩ := owns_shape hr3
        subst e3
        have hrow2 := owns_kept hrow fun j cs f hj => hb3.block j (Array.getElem?_eq_some_iff.1 hj).1
        have hsz3 := hb3.size
        have HR3 := Lib.hid hr3
        have HMP3 := Lib.hid (HMP.out.below hb3)
        have B3 := Lib.hid (HB.out.trans (hb3.mono HB.out.size))
        clear hb3 hr3 k0 k1 k2 k3 k4 k5 k6 k7 k8 k9 k10 k11 k12 k13 k14
        go_wp2_with (at_builtin; refine wpList_append_own _ rfl _ _ 112 rfl w.heap.size 38 i0 (.slice none 0 0) 1 24 Tryz.underlying112 hi hz0 hz1 hz2 rfl (by decide) _ _ _ rfl (hrow2.alloc _) _ 1 1 [.slice A3 (stepM (behindM l (row.take k)) q.1).length c3] rfl rfl (cell_one_new _ _ _) (by simp [Value.oneCell']) (by simp [maxLen]; omega) (by omega) (by simp; omega) ?_; intro v9 w9 hown9 hgrow9 hnil9; have HO := Lib.hid hown9; have HG := Lib.hid hgrow9; clear hown9 hgrow9 hnil9)
        have hk9 := grown_row (x := .slice none 0 0) (n := 0) (ys := []) HG.out hrow2 (by decide)
        exact ⟨⟨k + 1, vs ++ [.slice A3 (stepM (behindM l (row.take k)) q.1).length c3], by omega, by go_num, HO.out, (HMP3.out.kept hk9).snoc (by rw [HE.out]; exact owns_kept HR3.out hk9), (B3.out.alloc B3.out.size _).grown HG.out (by simp; omega) (fun gg hgg => (World.ownsRow.lt hrow2 gg hgg).1)⟩, by show row.length - ((k : Int) + 1).toNat < row.length - (k : Int).toNat; omega⟩
    · have hkk : k = row.length := by omega
      subst hkk
      have HR := Lib.hid hrow
      have HMP := Lib.hid hmp
      have HB := Lib.hid hB
      clear hrow hmp hB
      go_wp2_with fail
      go_ret
      exact ⟨_, vs, rfl, HR.out, HMP.out, HB.out⟩
end Go.Proofs.YtdhgacionopghaaGreatDoor.Od
