/- spec: the law SpecAllows. -/
import Derived.Outline
import Derived.Test.YtdhgacionopghaaSpecReps
import Derived.Test.YtdhgacionopghaaSpecKeeps
namespace Go.Proofs.Ytdhgacionopghaa.Sp
open Go.RowKit Go.Shelf Dc DcM DcW DcI DcR DcL
set_option linter.unusedVariables false
structure Gx (w W0 W : World) (v pr pk : Value) (m : List Pr) (r rk : Rep) (R g z : Nat) (o : OpL) : Prop where
  below : Below w.heap.size w W
  ba : Below W0.heap.size W0 W
  pm : Prs W v m
  prr : Prs W pr r.pairs
  prk : Prs W pk rk.pairs
  lr : R < W.heap.size
  lg : g < W.heap.size
  lw : w.heap.size < W.heap.size
  cells : W.cell? ⟨w.heap.size, 0, none⟩ = some (.int .i64 o.kind) ∧ W.cell? ⟨w.heap.size, 1, none⟩ = some (.string o.key) ∧ W.cell? ⟨w.heap.size, 2, none⟩ = some (.string o.value) ∧ W.cell? ⟨w.heap.size, 3, none⟩ = some (.string o.old) ∧ W.cell? ⟨R, 0, none⟩ = some (.int .i64 r.err) ∧ W.cell? ⟨R, 1, none⟩ = some (.bool r.had) ∧ W.cell? ⟨R, 2, none⟩ = some (.bool r.did) ∧ W.cell? ⟨R, 3, none⟩ = some (.string r.value) ∧ W.cell? ⟨R, 4, none⟩ = some (.int .i64 r.n) ∧ W.cell? ⟨R, 5, none⟩ = some (pr) ∧ W.cell? ⟨g, z, none⟩ = some (.int .i64 rk.err) ∧ W.cell? ⟨g, z + 1, none⟩ = some (.bool rk.had) ∧ W.cell? ⟨g, z + 2, none⟩ = some (.bool rk.did) ∧ W.cell? ⟨g, z + 3, none⟩ = some (.string rk.value) ∧ W.cell? ⟨g, z + 4, none⟩ = some (.int .i64 rk.n) ∧ W.cell? ⟨g, z + 5, none⟩ = some (pk)
theorem Gx.step {w W0 W W' : World} {v pr pk : Value} {m : List Pr} {r rk : Rep} {R g z : Nat} {o : OpL} (h : Gx w W0 W v pr pk m r rk R g z o) (hb : Below W.heap.size W W') : Gx w W0 W' v pr pk m r rk R g z o := by
  obtain ⟨h1, h1a, h2, h3, h4, h5, h6, h7, c⟩ := h
  refine ⟨h1.trans (hb.mono h1.size), h1a.trans (hb.mono h1a.size), h2.below hb, h3.below hb, h4.below hb, Nat.lt_of_lt_of_le h5 hb.size, Nat.lt_of_lt_of_le h6 hb.size, Nat.lt_of_lt_of_le h7 hb.size, ?_⟩
  have cr := fun k => hb.cell (p := ⟨R, k, none⟩) h5
  have cq := fun k => hb.cell (p := ⟨g, k, none⟩) h6
  have cb := fun k => hb.cell (p := ⟨w.heap.size, k, none⟩) h7
  rw [cb, cb, cb, cb, cr, cr, cr, cr, cr, cr, cq, cq, cq, cq, cq, cq]
  exact c
theorem rightB_ref (w : World) (v : Value) (l : List Pr) (h : Prs w v l) (hn : l.length < 1000000) :
    Calls Try.prog 18 #[v] w fun e w' => e = .returned (.bool (decide (Sorted l))) ∧ Below w.heap.size w w' :=
  (right_ref' w v l h hn).mono fun e w' ⟨he, n, hw⟩ => ⟨he, by rw [hw]; exact dn (Below.refl _ _) n⟩
theorem allowsM_len {m : List Pr} {o : OpL} {r : Rep} (h : Sorted m) : (allowsM m o r).length ≤ m.length + 1 := by
  unfold allowsM
  have := length_doM (o := o) h
  split <;> omega
theorem infoR : (Try.prog.info? 30).map (fun i => (i.zero, i.size, i.bytes)) = some (some (.agg #[.int .i64 0, .bool false, .bool false, .string ⟨#[]⟩, .int .i64 0, .slice none 0 0]), 6, 64) := by kernel_rfl
theorem oneR {l : List RV} (h : ∀ (j : Nat) (q : RV), l[j]? = some q → q.2.oneCell' = true) : ∀ u ∈ cellsR l, u.oneCell' = true := by
  intro u hu
  obtain ⟨q, hq, hp⟩ := List.mem_flatMap.1 hu
  obtain ⟨j, hj⟩ := List.mem_iff_getElem?.1 hq
  have h1 := h j q hj
  simp [repC] at hp
  rcases hp with rfl | rfl | rfl | rfl | rfl | rfl <;> first | rfl | exact h1

set_option maxRecDepth 100000 in
set_option maxHeartbeats 16000000 in
theorem allowslaw_any (w : World) (v : Value) (m : List Pr) (hP : Prs w v m) (hn : m.length ≤ maxLen) (o : OpL) (hz : o.key.size ≤ maxLen ∧ o.value.size ≤ maxLen ∧ o.old.size ≤ maxLen) (lv : Value) (l : List RV) (hR : Reps w lv l) (hln : l.length ≤ maxLen) :
    Calls Try.prog 4 #[v, .agg #[.int .i64 o.kind, .string o.key, .string o.value, .string o.old], lv] w fun e w' => e = .returned (.bool true) ∧ Below w.heap.size w w' := by
  obtain ⟨i0, hi, hz0, hz1, hz2⟩ := info_parts infoR
  obtain ⟨W1, hW1⟩ : ∃ W, W = w.alloc (.cells #[.int .i64 o.kind, .string o.key, .string o.value, .string o.old] 27) := ⟨_, rfl⟩
  have hb1 : Below w.heap.size w W1 := by rw [hW1]; exact (Below.refl _ _).alloc (Nat.le_refl _) _
  have hx1 : W1.heap[w.heap.size]? = some (.cells #[.int .i64 o.kind, .string o.key, .string o.value, .string o.old] 27 (0, 0)) := by rw [hW1]; exact heap_alloc_new w _
  have hs1 : W1.heap.size = w.heap.size + 1 := by rw [hW1]; simp
  have HP := Lib.hid hP
  have HR := Lib.hid hR
  obtain ⟨A, cap, rfl, _, _⟩ := hP
  obtain ⟨B, capB, rfl, hBn, _⟩ := hR
  have B1 := Lib.hid hb1
  have X1 := Lib.hid hx1
  have HW := Lib.hid hW1
  have HS1 := Lib.hid hs1
  have HZ := Lib.hid hz
  clear hb1 hx1 hW1 hs1 hz
  by_cases hl : 40 < m.length
  · go_enter Try.func4, Try.ntmps4
    go_wp2_with fail
    rw [← HW.out]
    refine (awake_any _).mono ?_
    rintro e w2 ⟨rfl, hb⟩
    have B2 := Lib.hid (B1.out.trans (hb.mono B1.out.size))
    clear hb
    go_wp2_with fail
    go_ret
    exact ⟨rfl, B2.out⟩
  · by_cases hl2 : 10 < l.length
    · go_enter Try.func4, Try.ntmps4
      go_wp2_with fail
      rw [← HW.out]
      refine (awake_any _).mono ?_
      rintro e w2 ⟨rfl, hb⟩
      have B2 := Lib.hid (B1.out.trans (hb.mono B1.out.size))
      clear hb
      go_wp2_with fail
      go_ret
      exact ⟨rfl, B2.out⟩
    · go_enter Try.func4, Try.ntmps4
      go_wp2_with fail
      rw [← HW.out]
      refine (short_any W1 o.kind o.key o.value o.old HZ.out.1 HZ.out.2.1 HZ.out.2.2).mono ?_
      cases hsh : shortB ⟨o.kind, o.key, o.value, o.old⟩ with
      | false =>
        rintro e w2 ⟨rfl, hb2⟩
        have B2 := Lib.hid (B1.out.trans (hb2.mono B1.out.size))
        clear hb2 hsh
        go_wp2_with fail
        refine (awake_any _).mono ?_
        rintro e w3 ⟨rfl, hb⟩
        have B3 := Lib.hid (B2.out.trans (hb.mono B2.out.size))
        clear hb
        go_wp2_with fail
        go_ret
        exact ⟨rfl, B3.out⟩
      | true =>
        rintro e w2 ⟨rfl, hb2⟩
        have B2 := Lib.hid (B1.out.trans (hb2.mono B1.out.size))
        have H2 := Lib.hid hb2
        clear hb2 hsh
        go_wp2_with fail
        refine (rightB_spec w2 _ m (HP.out.below B2.out) (by omega)).mono ?_
        cases hso : decide (Sorted m) with
        | false =>
          rintro e w3 ⟨rfl, hb3⟩
          have B3 := Lib.hid (B2.out.trans (hb3.mono B2.out.size))
          clear hb3
          go_wp2_with fail
          refine (rightB_ref w3 _ m (HP.out.below B3.out) (by omega)).mono ?_
          rw [hso]
          rintro e w4 ⟨rfl, hb4⟩
          have B4 := Lib.hid (B3.out.trans (hb4.mono B3.out.size))
          clear hb4
          go_wp2_with fail
          refine (rightB_ref w4 _ m (HP.out.below B4.out) (by omega)).mono ?_
          rw [hso]
          rintro e w5 ⟨rfl, hb5⟩
          have B5 := Lib.hid (B4.out.trans (hb5.mono B4.out.size))
          clear hb5 hso
          go_wp2_with fail
          refine (awake_any _).mono ?_
          rintro e w6 ⟨rfl, hb⟩
          have B6 := Lib.hid (B5.out.trans (hb.mono B5.out.size))
          clear hb
          go_wp2_with fail
          go_ret
          exact ⟨rfl, B6.out⟩
        | true =>
          have HSO := Lib.hid (of_decide_eq_true hso)
          rintro e w3 ⟨rfl, hb3⟩
          have B3 := Lib.hid (B2.out.trans (hb3.mono B2.out.size))
          have H3 := Lib.hid (H2.out.trans (hb3.mono H2.out.size))
          clear hb3
          go_wp2_with fail
          refine (rightB_ref w3 _ m (HP.out.below B3.out) (by omega)).mono ?_
          rw [hso]
          rintro e w4 ⟨rfl, hb4⟩
          have B4 := Lib.hid (B3.out.trans (hb4.mono B3.out.size))
          have H4 := Lib.hid (H3.out.trans (hb4.mono H3.out.size))
          clear hb4
          go_wp2_with fail
          refine (rightB_ref w4 _ m (HP.out.below B4.out) (by omega)).mono ?_
          rw [hso]
          rintro e w5 ⟨rfl, hb5⟩
          have B5 := Lib.hid (B4.out.trans (hb5.mono B4.out.size))
          have H5 := Lib.hid (H4.out.trans (hb5.mono H4.out.size))
          have hs5 := H5.out.size
          rw [HS1.out] at hs5
          have hx5 := (H5.out.block w.heap.size (by rw [HS1.out]; omega)).trans X1.out
          have f0 := cell_of hx5 0
          have f1 := cell_of hx5 1
          have f2 := cell_of hx5 2
          have f3 := cell_of hx5 3
          simp only [List.getElem?_toArray, List.getElem?_cons_succ, List.getElem?_cons_zero] at f0 f1 f2 f3
          have X5 := Lib.hid hx5
          clear hb5 hso hx5
          go_wp2_with fail
          refine (do_ref w5 _ m (HP.out.below B5.out) HSO.out (by omega) o.kind o.key o.value o.old ⟨HZ.out.1, HZ.out.2.1⟩).mono ?_
          have hpl := pairs_len (m := m) (o := o) (by omega)
          have hrl : (doR m o).pairs.length ≤ maxLen := by have := hpl; unfold maxLen; omega
          obtain ⟨r, hr⟩ : ∃ r, r = doR m o := ⟨_, rfl⟩
          rw [show (⟨o.kind, o.key, o.value, o.old⟩ : OpL) = o from rfl, ← hr]
          rw [← hr] at hpl hrl
          have HRD := Lib.hid hr
          clear hr
          unfold repC
          rintro e w6 ⟨v6, p6, rfl, _, hq6, hb6⟩
          obtain ⟨A6, c6, e6, _⟩ := id hq6
          subst e6
          obtain ⟨W7, hW7⟩ : ∃ W, W = w6.alloc (.cells #[.int .i64 r.err, .bool r.had, .bool r.did, .string r.value, .int .i64 r.n, .slice A6 r.pairs.length c6] 30) := ⟨_, rfl⟩
          have hb7 : Below w6.heap.size w6 W7 := by rw [hW7]; exact (Below.refl _ _).alloc (Nat.le_refl _) _
          have hr7 : W7.heap[w6.heap.size]? = some (.cells #[.int .i64 r.err, .bool r.had, .bool r.did, .string r.value, .int .i64 r.n, .slice A6 r.pairs.length c6] 30 (0, 0)) := by rw [hW7]; exact heap_alloc_new w6 _
          have hs7 : W7.heap.size = w6.heap.size + 1 := by rw [hW7]; simp
          have hs6 := hb6.size
          have hx7 := ((hb7.block w.heap.size (by omega)).trans (hb6.block _ (by omega))).trans X5.out
          have B7 := Lib.hid ((B5.out.trans (hb6.mono B5.out.size)).trans (hb7.mono (B5.out.trans (hb6.mono B5.out.size)).size))
          have Q7 := Lib.hid (hq6.below hb7)
          have hrow := World.ownsRow_lit (base := W7.heap.size) (e := 30) (size := 6) W7 #[.int .i64 r.err, .bool r.had, .bool r.did, .string r.value, .int .i64 r.n, .slice A6 r.pairs.length c6, .int .i64 10, .bool false, .bool false, .string ⟨#[]⟩, .int .i64 0, .slice none 0 0] 2 (Nat.le_refl _) (by decide) rfl
          have hreps : Reps (W7.alloc (.cells #[.int .i64 r.err, .bool r.had, .bool r.did, .string r.value, .int .i64 r.n, .slice A6 r.pairs.length c6, .int .i64 10, .bool false, .bool false, .string ⟨#[]⟩, .int .i64 0, .slice none 0 0] 30)) (.slice B l.length capB) l := HR.out.below (B7.out.alloc B7.out.size _)
          obtain ⟨W8, hW8⟩ : ∃ W, W = W7.alloc (.cells #[.int .i64 r.err, .bool r.had, .bool r.did, .string r.value, .int .i64 r.n, .slice A6 r.pairs.length c6, .int .i64 10, .bool false, .bool false, .string ⟨#[]⟩, .int .i64 0, .slice none 0 0] 30) := ⟨_, rfl⟩
          rw [← hW8] at hrow hreps
          have hb8 : Below W7.heap.size W7 W8 := by rw [hW8]; exact (Below.refl _ _).alloc (Nat.le_refl _) _
          have hw78 : W8 = (w6.alloc (.cells #[.int .i64 r.err, .bool r.had, .bool r.did, .string r.value, .int .i64 r.n, .slice A6 r.pairs.length c6] 30)).alloc (.cells #[.int .i64 r.err, .bool r.had, .bool r.did, .string r.value, .int .i64 r.n, .slice A6 r.pairs.length c6, .int .i64 10, .bool false, .bool false, .string ⟨#[]⟩, .int .i64 0, .slice none 0 0] 30) := by rw [hW8, hW7]
          have HW78 := Lib.hid hw78
          have HREP := Lib.hid hreps
          have X7 := Lib.hid hx7
          have R7 := Lib.hid hr7
          have HS7 := Lib.hid hs7
          have BB8 := Lib.hid hb8
          clear hb6 hq6 hb7 hr7 hs7 hW7 hx7 hW8 hb8 hw78 hreps f0 f1 f2 f3
          obtain ⟨L, hL⟩ : ∃ L : List RV, L = (r, .slice A6 r.pairs.length c6) :: ({ err := 10 }, .slice none 0 0) :: l := ⟨_, rfl⟩
          dsimp only
          cases B with
          | none =>
            have hl0 : l = [] := by
              match l, HREP.out with
              | [], _ => rfl
              | q :: t, ⟨A', cap', e', _, hc'⟩ =>
                obtain ⟨_, _, _, b, z, hA', _⟩ := hc' 0 q rfl
                simp only [Value.slice.injEq] at e'
                rw [← e'.1] at hA'
                cases hA'
            subst hl0
            have hc0 := hBn rfl
            subst hc0
            have HPL : Hid (∀ (j : Nat) (q : RV), L[j]? = some q → Prs W8 q.2 q.1.pairs ∧ q.1.pairs.length ≤ maxLen) := by
              refine Lib.hid fun j q hq => ?_
              subst hL
              match j, hq with
              | 0, hq => simp at hq; subst hq; exact ⟨Q7.out.below BB8.out, hrl⟩
              | 1, hq => simp at hq; subst hq; exact ⟨prs_nil _, Nat.zero_le _⟩
            have HN : Hid (2 = L.length) := by subst hL; exact Lib.hid rfl
            have HOWN : Hid (W8.ownsRow W7.heap.size 30 6 (.slice (some ⟨w6.heap.size + 1, 0, none⟩) 2 2) 2 (cellsR L)) := by subst hL; rw [← HS7.out]; exact Lib.hid hrow
            have HGL : Hid (w6.heap.size + 1 < W8.heap.size) := Lib.hid (by rw [HW78.out]; simp)
            have BWA := BB8
            have hrow' := hrow
            rw [HS7.out] at hrow'
            go_wp2_with (at_builtin; refine wpList_append_own_none rfl _ _ 37 rfl (w6.heap.size + 1) 30 i0 6 Try.underlying37 hi _ 2 _ rfl (by rw [← HW78.out]; exact hrow') rfl ?_)
            rw [← HW78.out]
            clear hrow hrow' hL hBn
            go_loopw [10] (fun i wr => ∃ k : Nat, k ≤ 2 ∧ i = .int .i64 k ∧ Below W8.heap.size W8 wr) (fun i _ => 2 - (intOf i).toNat)
            case atStart => exact ⟨0, Nat.zero_le _, rfl, Below.refl _ _⟩
            case round =>
              obtain ⟨k, hk, rfl, hB⟩ := hrel
              have HB := Lib.hid hB
              have hBs := hB.size
              clear hB
              by_cases hp : k < 2
              · obtain ⟨⟨rk, pk⟩, hq⟩ : ∃ q, L[k]? = some q := ⟨_, List.getElem?_eq_getElem (by rw [← HN.out]; exact hp)⟩
                obtain ⟨hpk, hkl⟩ := HPL.out k _ hq
                dsimp only at hpk hkl
                obtain ⟨Ap, cp, ep, _⟩ := id hpk
                subst ep
                have hgl : (w6.heap.size + 1) < W8.heap.size := HGL.out
                have hcell : ∀ kk u, (repC rk (.slice Ap rk.pairs.length cp))[kk]? = some u → wr.cell? ⟨(w6.heap.size + 1), k * 6 + kk, none⟩ = some u := fun kk u hu => by
                  refine (HB.out.cell (p := ⟨(w6.heap.size + 1), k * 6 + kk, none⟩) hgl).trans ?_
                  rw [← add0]
                  exact HOWN.out.cells (g := (w6.heap.size + 1)) rfl _ _ (cellsR_get L k _ kk u hq hu)
                have k0 : wr.cell? ⟨(w6.heap.size + 1), k * 6, none⟩ = some (.int .i64 rk.err) := hcell 0 _ rfl
                have k1 : wr.cell? ⟨(w6.heap.size + 1), k * 6 + 1, none⟩ = some (.bool rk.had) := hcell 1 _ rfl
                have k2 : wr.cell? ⟨(w6.heap.size + 1), k * 6 + 2, none⟩ = some (.bool rk.did) := hcell 2 _ rfl
                have k3 : wr.cell? ⟨(w6.heap.size + 1), k * 6 + 3, none⟩ = some (.string rk.value) := hcell 3 _ rfl
                have k4 : wr.cell? ⟨(w6.heap.size + 1), k * 6 + 4, none⟩ = some (.int .i64 rk.n) := hcell 4 _ rfl
                have k5 : wr.cell? ⟨(w6.heap.size + 1), k * 6 + 5, none⟩ = some (.slice Ap rk.pairs.length cp) := hcell 5 _ rfl
                have PKW := Lib.hid (hpk.below HB.out)
                have hBw := (BWA.out.trans (HB.out.mono BWA.out.size))
                have hx9 := (hBw.block w.heap.size (by rw [HS7.out]; omega)).trans X7.out
                have hr9 := (hBw.block w6.heap.size (by rw [HS7.out]; omega)).trans R7.out
                have j0 := cell_of hx9 0
                have j1 := cell_of hx9 1
                have j2 := cell_of hx9 2
                have j3 := cell_of hx9 3
                have i0 := cell_of hr9 0
                have i1 := cell_of hr9 1
                have i2 := cell_of hr9 2
                have i3 := cell_of hr9 3
                have i4 := cell_of hr9 4
                have i5 := cell_of hr9 5
                simp only [List.getElem?_toArray, List.getElem?_cons_succ, List.getElem?_cons_zero] at j0 j1 j2 j3 i0 i1 i2 i3 i4 i5
                have hwB := B7.out.trans (hBw.mono B7.out.size)
                have hs9 := hBw.size
                rw [HS7.out] at hs9
                have HG0 : Gx w W8 wr (.slice A m.length cap) (.slice A6 r.pairs.length c6) (.slice Ap rk.pairs.length cp) m r rk w6.heap.size (w6.heap.size + 1) (k * 6) o :=
                  ⟨hwB, HB.out, HP.out.below hwB, Q7.out.below hBw, PKW.out, by omega, by omega, by omega, j0, j1, j2, j3, i0, i1, i2, i3, i4, i5, k0, k1, k2, k3, k4, k5⟩
                have HG := Lib.hid HG0
                have HB7 := Lib.hid hwB
                clear hq hpk hkl hcell hx9 hr9 hBw HG0 hwB k0 k1 k2 k3 k4 j0 j1 j2 j3 i0 i1 i2 i3 i4 i5
                by_cases h60 : 60 < rk.pairs.length
                · go_wp2_with fail
                  refine (awake_any _).mono ?_
                  rintro e w12 ⟨rfl, hb⟩
                  have B12 := Lib.hid (HB7.out.trans (hb.mono HB7.out.size))
                  clear hb
                  go_wp2_with fail
                  go_ret
                  exact ⟨rfl, B12.out⟩
                · have CA := fun (W : World) (hg : Gx w W8 W (.slice A m.length cap) (.slice A6 r.pairs.length c6) (.slice Ap rk.pairs.length cp) m r rk w6.heap.size (w6.heap.size + 1) (k * 6) o) => allows_spec W _ m hg.pm HSO.out (by omega) o.kind o.key o.value o.old ⟨HZ.out.1, HZ.out.2.1⟩ rk _ hg.prk (by omega)
                  have CB := fun (W : World) (hg : Gx w W8 W (.slice A m.length cap) (.slice A6 r.pairs.length c6) (.slice Ap rk.pairs.length cp) m r rk w6.heap.size (w6.heap.size + 1) (k * 6) o) => allows_ref W _ m hg.pm HSO.out (by omega) o.kind o.key o.value o.old ⟨HZ.out.1, HZ.out.2.1⟩ rk _ hg.prk (by omega)
                  have CS := fun (W : World) (hg : Gx w W8 W (.slice A m.length cap) (.slice A6 r.pairs.length c6) (.slice Ap rk.pairs.length cp) m r rk w6.heap.size (w6.heap.size + 1) (k * 6) o) => same_spec W r rk _ _ hg.prr hg.prk hpl
                  have CT := fun (W : World) (hg : Gx w W8 W (.slice A m.length cap) (.slice A6 r.pairs.length c6) (.slice Ap rk.pairs.length cp) m r rk w6.heap.size (w6.heap.size + 1) (k * 6) o) => sameR_ref W r rk _ _ hg.prr hg.prk hpl
                  have haml := allowsM_len (o := ⟨o.kind, o.key, o.value, o.old⟩) (r := rk) HSO.out
                  obtain ⟨am, ham⟩ : ∃ x, x = allowsM m ⟨o.kind, o.key, o.value, o.old⟩ rk := ⟨_, rfl⟩
                  obtain ⟨ab, hab⟩ : ∃ x, x = allowsB m ⟨o.kind, o.key, o.value, o.old⟩ rk := ⟨_, rfl⟩
                  obtain ⟨sb, hsb⟩ : ∃ x, x = sameR r rk := ⟨_, rfl⟩
                  simp only [← ham, ← hab] at CA CB
                  simp only [← hsb] at CS CT
                  rw [← ham] at haml
                  have HCA : Hid (∀ W, Gx w W8 W (.slice A m.length cap) (.slice A6 r.pairs.length c6) (.slice Ap rk.pairs.length cp) m r rk w6.heap.size (w6.heap.size + 1) (k * 6) o → Calls Try.prog 19 #[.slice A m.length cap, .agg #[.int .i64 o.kind, .string o.key, .string o.value, .string o.old], .agg #[.int .i64 rk.err, .bool rk.had, .bool rk.did, .string rk.value, .int .i64 rk.n, .slice Ap rk.pairs.length cp]] W fun e w' => ∃ v', e = .returned (.tuple #[v', .bool ab]) ∧ Prs w' v' am ∧ Below W.heap.size W w') := Lib.hid CA
                  have HCB : Hid (∀ W, Gx w W8 W (.slice A m.length cap) (.slice A6 r.pairs.length c6) (.slice Ap rk.pairs.length cp) m r rk w6.heap.size (w6.heap.size + 1) (k * 6) o → Calls Try.prog 20 #[.slice A m.length cap, .agg #[.int .i64 o.kind, .string o.key, .string o.value, .string o.old], .agg #[.int .i64 rk.err, .bool rk.had, .bool rk.did, .string rk.value, .int .i64 rk.n, .slice Ap rk.pairs.length cp]] W fun e w' => ∃ v', e = .returned (.tuple #[v', .bool ab]) ∧ Prs w' v' am ∧ Below W.heap.size W w') := Lib.hid CB
                  have HCS : Hid (∀ W, Gx w W8 W (.slice A m.length cap) (.slice A6 r.pairs.length c6) (.slice Ap rk.pairs.length cp) m r rk w6.heap.size (w6.heap.size + 1) (k * 6) o → Calls Try.prog 21 #[.agg #[.int .i64 r.err, .bool r.had, .bool r.did, .string r.value, .int .i64 r.n, .slice A6 r.pairs.length c6], .agg #[.int .i64 rk.err, .bool rk.had, .bool rk.did, .string rk.value, .int .i64 rk.n, .slice Ap rk.pairs.length cp]] W fun e w' => e = .returned (.bool sb) ∧ Below W.heap.size W w') := Lib.hid CS
                  have HCT : Hid (∀ W, Gx w W8 W (.slice A m.length cap) (.slice A6 r.pairs.length c6) (.slice Ap rk.pairs.length cp) m r rk w6.heap.size (w6.heap.size + 1) (k * 6) o → Calls Try.prog 14 #[.agg #[.int .i64 r.err, .bool r.had, .bool r.did, .string r.value, .int .i64 r.n, .slice A6 r.pairs.length c6], .agg #[.int .i64 rk.err, .bool rk.had, .bool rk.did, .string rk.value, .int .i64 rk.n, .slice Ap rk.pairs.length cp]] W fun e w' => e = .returned (.bool sb) ∧ Below W.heap.size W w') := Lib.hid CT
                  clear CA CB CS CT ham hab hsb
                  have hin : (k : Int) < ((2 : Nat) : Int) := by omega
                  have HGd := Lib.hid (HG.out.step (Below.refl _ _).drew)
                  cases ab
                  all_goals cases sb
                  all_goals
                    go_wp2_with fail
                    go_region_held3 (fun w' => w'.cell? ⟨w.heap.size, 0, none⟩ = some (.int .i64 o.kind) ∧ w'.cell? ⟨w.heap.size, 1, none⟩ = some (.string o.key) ∧ w'.cell? ⟨w.heap.size, 2, none⟩ = some (.string o.value) ∧ w'.cell? ⟨w.heap.size, 3, none⟩ = some (.string o.old) ∧ w'.cell? ⟨w6.heap.size, 0, none⟩ = some (.int .i64 r.err) ∧ w'.cell? ⟨w6.heap.size, 1, none⟩ = some (.bool r.had) ∧ w'.cell? ⟨w6.heap.size, 2, none⟩ = some (.bool r.did) ∧ w'.cell? ⟨w6.heap.size, 3, none⟩ = some (.string r.value) ∧ w'.cell? ⟨w6.heap.size, 4, none⟩ = some (.int .i64 r.n) ∧ w'.cell? ⟨w6.heap.size, 5, none⟩ = some (.slice A6 r.pairs.length c6) ∧ w'.cell? ⟨(w6.heap.size + 1), k * 6, none⟩ = some (.int .i64 rk.err) ∧ w'.cell? ⟨(w6.heap.size + 1), k * 6 + 1, none⟩ = some (.bool rk.had) ∧ w'.cell? ⟨(w6.heap.size + 1), k * 6 + 2, none⟩ = some (.bool rk.did) ∧ w'.cell? ⟨(w6.heap.size + 1), k * 6 + 3, none⟩ = some (.string rk.value) ∧ w'.cell? ⟨(w6.heap.size + 1), k * 6 + 4, none⟩ = some (.int .i64 rk.n) ∧ w'.cell? ⟨(w6.heap.size + 1), k * 6 + 5, none⟩ = some (.slice Ap rk.pairs.length cp))
                      (first | exact HGd.out.cells | exact HGa.out.cells | go_keep)
                      ((go_at_call 19; refine (HCA.out _ HGd.out).mono ?_; rintro e wa ⟨va, rfl, hpa, hba⟩; have HGa := Lib.hid (HGd.out.step hba); have PA := Lib.hid hpa; clear hpa hba))
                    go_wp2_with fail
                    have HGe := Lib.hid (HGa.out.step (Below.refl _ _).drew)
                    have PAe := Lib.hid (PA.out.below (Below.refl _ _).drew)
                    clear k5
                    go_region_held3 (fun w' => w'.cell? ⟨w.heap.size, 0, none⟩ = some (.int .i64 o.kind) ∧ w'.cell? ⟨w.heap.size, 1, none⟩ = some (.string o.key) ∧ w'.cell? ⟨w.heap.size, 2, none⟩ = some (.string o.value) ∧ w'.cell? ⟨w.heap.size, 3, none⟩ = some (.string o.old) ∧ w'.cell? ⟨w6.heap.size, 0, none⟩ = some (.int .i64 r.err) ∧ w'.cell? ⟨w6.heap.size, 1, none⟩ = some (.bool r.had) ∧ w'.cell? ⟨w6.heap.size, 2, none⟩ = some (.bool r.did) ∧ w'.cell? ⟨w6.heap.size, 3, none⟩ = some (.string r.value) ∧ w'.cell? ⟨w6.heap.size, 4, none⟩ = some (.int .i64 r.n) ∧ w'.cell? ⟨w6.heap.size, 5, none⟩ = some (.slice A6 r.pairs.length c6) ∧ w'.cell? ⟨(w6.heap.size + 1), k * 6, none⟩ = some (.int .i64 rk.err) ∧ w'.cell? ⟨(w6.heap.size + 1), k * 6 + 1, none⟩ = some (.bool rk.had) ∧ w'.cell? ⟨(w6.heap.size + 1), k * 6 + 2, none⟩ = some (.bool rk.did) ∧ w'.cell? ⟨(w6.heap.size + 1), k * 6 + 3, none⟩ = some (.string rk.value) ∧ w'.cell? ⟨(w6.heap.size + 1), k * 6 + 4, none⟩ = some (.int .i64 rk.n) ∧ w'.cell? ⟨(w6.heap.size + 1), k * 6 + 5, none⟩ = some (.slice Ap rk.pairs.length cp))
                      (first | exact HGe.out.cells | exact HGb.out.cells | go_keep)
                      ((go_at_call 20; refine (HCB.out _ HGe.out).mono ?_; rintro e wb ⟨vb, rfl, hpb, hbb⟩; have HGb := Lib.hid (HGe.out.step hbb); have PAb := Lib.hid (PAe.out.below hbb); have PB := Lib.hid hpb; clear hpb hbb))
                    go_wp2_with fail
                    have HGf := Lib.hid (HGb.out.step (Below.refl _ _).drew)
                    have PAf := Lib.hid (PAb.out.below (Below.refl _ _).drew)
                    have PBf := Lib.hid (PB.out.below (Below.refl _ _).drew)
                    go_region_held3 (fun w' => w'.cell? ⟨w.heap.size, 0, none⟩ = some (.int .i64 o.kind) ∧ w'.cell? ⟨w.heap.size, 1, none⟩ = some (.string o.key) ∧ w'.cell? ⟨w.heap.size, 2, none⟩ = some (.string o.value) ∧ w'.cell? ⟨w.heap.size, 3, none⟩ = some (.string o.old) ∧ w'.cell? ⟨w6.heap.size, 0, none⟩ = some (.int .i64 r.err) ∧ w'.cell? ⟨w6.heap.size, 1, none⟩ = some (.bool r.had) ∧ w'.cell? ⟨w6.heap.size, 2, none⟩ = some (.bool r.did) ∧ w'.cell? ⟨w6.heap.size, 3, none⟩ = some (.string r.value) ∧ w'.cell? ⟨w6.heap.size, 4, none⟩ = some (.int .i64 r.n) ∧ w'.cell? ⟨w6.heap.size, 5, none⟩ = some (.slice A6 r.pairs.length c6) ∧ w'.cell? ⟨(w6.heap.size + 1), k * 6, none⟩ = some (.int .i64 rk.err) ∧ w'.cell? ⟨(w6.heap.size + 1), k * 6 + 1, none⟩ = some (.bool rk.had) ∧ w'.cell? ⟨(w6.heap.size + 1), k * 6 + 2, none⟩ = some (.bool rk.did) ∧ w'.cell? ⟨(w6.heap.size + 1), k * 6 + 3, none⟩ = some (.string rk.value) ∧ w'.cell? ⟨(w6.heap.size + 1), k * 6 + 4, none⟩ = some (.int .i64 rk.n) ∧ w'.cell? ⟨(w6.heap.size + 1), k * 6 + 5, none⟩ = some (.slice Ap rk.pairs.length cp))
                      (first | exact HGf.out.cells | go_keep)
                      (first
                        | (go_at_call 13; refine (sameB_ref _ va vb am am PAf.out PBf.out (by omega)).mono ?_; rw [show decide (am = am) = true from decide_eq_true rfl]; rintro e w' ⟨rfl, hbb⟩; replace HGf := Lib.hid (HGf.out.step hbb); clear hbb)
                        | (go_at_call 21; refine (HCS.out _ HGf.out).mono ?_; rintro e w' ⟨rfl, hbb⟩; replace HGf := Lib.hid (HGf.out.step hbb); clear hbb)
                        | (go_at_call 14; refine (HCT.out _ HGf.out).mono ?_; rintro e w' ⟨rfl, hbb⟩; replace HGf := Lib.hid (HGf.out.step hbb); clear hbb))
                    go_wp2_with fail
                    exact ⟨⟨k + 1, by omega, by go_num, HGf.out.ba⟩, by show 2 - ((k : Int) + 1).toNat < 2 - (k : Int).toNat; omega⟩
              · have BW := Lib.hid (B7.out.trans ((BWA.out.trans (HB.out.mono BWA.out.size)).mono B7.out.size))
                go_wp2_with fail
                refine (awake_any _).mono ?_
                rintro e w12 ⟨rfl, hb⟩
                have B12 := Lib.hid (BW.out.trans (hb.mono BW.out.size))
                clear hb
                go_wp2_with fail
                go_ret
                exact ⟨rfl, B12.out⟩
          | some ad =>
            have hnews := newsR HREP.out
            have hone : ∀ u ∈ cellsR l, u.oneCell' = true := oneR fun j q hq => by
              obtain ⟨A', cap', e', _, hc'⟩ := HREP.out
              exact (hc' j q hq).2.2.1
            have hlen6 := cellsR_length l
            have hrow' := hrow
            rw [HS7.out] at hrow'
            go_wp2_with (at_builtin; refine wpList_append_own _ rfl _ _ 37 rfl (w6.heap.size + 1) 30 i0 (.agg #[.int .i64 0, .bool false, .bool false, .string ⟨#[]⟩, .int .i64 0, .slice none 0 0]) 6 64 Try.underlying37 hi hz0 hz1 hz2 rfl (by decide) _ 2 _ rfl (by rw [← HW78.out]; exact hrow') ad l.length capB (cellsR l) rfl hlen6 (by rw [← HW78.out]; exact hnews) hone (by simp [maxLen]; omega) (by omega) (by simp) ?_; intro v9 w9 hown9 hgrow9 hnil9)
            rw [← HW78.out] at hgrow9
            rw [show 2 + l.length = l.length + 1 + 1 by omega] at hown9
            obtain ⟨g9, cap9, rfl⟩ := ownsRow_succ hown9
            have hb9 : Below W7.heap.size W7 w9 := BB8.out.grown hgrow9 BB8.out.size fun gg hgg => by
              rw [HS7.out]
              exact (World.ownsRow.lt hrow' gg hgg).1
            have HPL : Hid (∀ (j : Nat) (q : RV), L[j]? = some q → Prs w9 q.2 q.1.pairs ∧ q.1.pairs.length ≤ maxLen) := by
              refine Lib.hid fun j q hq => ?_
              subst hL
              match j, hq with
              | 0, hq => simp at hq; subst hq; exact ⟨Q7.out.below hb9, hrl⟩
              | 1, hq => simp at hq; subst hq; exact ⟨prs_nil _, Nat.zero_le _⟩
              | j + 2, hq =>
                obtain ⟨A', cap', e', _, hc'⟩ := HR.out.below (B7.out.trans (hb9.mono B7.out.size))
                have := hc' j q (by simpa using hq)
                exact ⟨this.1, this.2.1⟩
            have HN : Hid (l.length + 1 + 1 = L.length) := by subst hL; exact Lib.hid rfl
            have HOWN : Hid (w9.ownsRow (w6.heap.size + 1) 30 6 (.slice (some ⟨g9, 0, none⟩) (l.length + 1 + 1) cap9) (l.length + 1 + 1) (cellsR L)) := by subst hL; exact Lib.hid hown9
            have HGL : Hid (g9 < w9.heap.size) := Lib.hid (World.ownsRow.lt hown9 g9 rfl).2
            have BWA := Lib.hid hb9
            clear hrow hrow' hL hBn hown9 hgrow9 hnil9 hnews hone hlen6 hb9
            go_wp2_with fail
            go_loopw [10] (fun i wr => ∃ k : Nat, k ≤ (l.length + 1 + 1) ∧ i = .int .i64 k ∧ Below w9.heap.size w9 wr) (fun i _ => (l.length + 1 + 1) - (intOf i).toNat)
            case atStart => exact ⟨0, Nat.zero_le _, rfl, Below.refl _ _⟩
            case round =>
              obtain ⟨k, hk, rfl, hB⟩ := hrel
              have HB := Lib.hid hB
              have hBs := hB.size
              clear hB
              by_cases hp : k < (l.length + 1 + 1)
              · obtain ⟨⟨rk, pk⟩, hq⟩ : ∃ q, L[k]? = some q := ⟨_, List.getElem?_eq_getElem (by rw [← HN.out]; exact hp)⟩
                obtain ⟨hpk, hkl⟩ := HPL.out k _ hq
                dsimp only at hpk hkl
                obtain ⟨Ap, cp, ep, _⟩ := id hpk
                subst ep
                have hgl : g9 < w9.heap.size := HGL.out
                have hcell : ∀ kk u, (repC rk (.slice Ap rk.pairs.length cp))[kk]? = some u → wr.cell? ⟨g9, k * 6 + kk, none⟩ = some u := fun kk u hu => by
                  refine (HB.out.cell (p := ⟨g9, k * 6 + kk, none⟩) hgl).trans ?_
                  rw [← add0]
                  exact HOWN.out.cells (g := g9) rfl _ _ (cellsR_get L k _ kk u hq hu)
                have k0 : wr.cell? ⟨g9, k * 6, none⟩ = some (.int .i64 rk.err) := hcell 0 _ rfl
                have k1 : wr.cell? ⟨g9, k * 6 + 1, none⟩ = some (.bool rk.had) := hcell 1 _ rfl
                have k2 : wr.cell? ⟨g9, k * 6 + 2, none⟩ = some (.bool rk.did) := hcell 2 _ rfl
                have k3 : wr.cell? ⟨g9, k * 6 + 3, none⟩ = some (.string rk.value) := hcell 3 _ rfl
                have k4 : wr.cell? ⟨g9, k * 6 + 4, none⟩ = some (.int .i64 rk.n) := hcell 4 _ rfl
                have k5 : wr.cell? ⟨g9, k * 6 + 5, none⟩ = some (.slice Ap rk.pairs.length cp) := hcell 5 _ rfl
                have PKW := Lib.hid (hpk.below HB.out)
                have hBw := (BWA.out.trans (HB.out.mono BWA.out.size))
                have hx9 := (hBw.block w.heap.size (by rw [HS7.out]; omega)).trans X7.out
                have hr9 := (hBw.block w6.heap.size (by rw [HS7.out]; omega)).trans R7.out
                have j0 := cell_of hx9 0
                have j1 := cell_of hx9 1
                have j2 := cell_of hx9 2
                have j3 := cell_of hx9 3
                have i0 := cell_of hr9 0
                have i1 := cell_of hr9 1
                have i2 := cell_of hr9 2
                have i3 := cell_of hr9 3
                have i4 := cell_of hr9 4
                have i5 := cell_of hr9 5
                simp only [List.getElem?_toArray, List.getElem?_cons_succ, List.getElem?_cons_zero] at j0 j1 j2 j3 i0 i1 i2 i3 i4 i5
                have hwB := B7.out.trans (hBw.mono B7.out.size)
                have hs9 := hBw.size
                rw [HS7.out] at hs9
                have HG0 : Gx w w9 wr (.slice A m.length cap) (.slice A6 r.pairs.length c6) (.slice Ap rk.pairs.length cp) m r rk w6.heap.size g9 (k * 6) o :=
                  ⟨hwB, HB.out, HP.out.below hwB, Q7.out.below hBw, PKW.out, by omega, by omega, by omega, j0, j1, j2, j3, i0, i1, i2, i3, i4, i5, k0, k1, k2, k3, k4, k5⟩
                have HG := Lib.hid HG0
                have HB7 := Lib.hid hwB
                clear hq hpk hkl hcell hx9 hr9 hBw HG0 hwB k0 k1 k2 k3 k4 j0 j1 j2 j3 i0 i1 i2 i3 i4 i5
                by_cases h60 : 60 < rk.pairs.length
                · go_wp2_with fail
                  refine (awake_any _).mono ?_
                  rintro e w12 ⟨rfl, hb⟩
                  have B12 := Lib.hid (HB7.out.trans (hb.mono HB7.out.size))
                  clear hb
                  go_wp2_with fail
                  go_ret
                  exact ⟨rfl, B12.out⟩
                · have CA := fun (W : World) (hg : Gx w w9 W (.slice A m.length cap) (.slice A6 r.pairs.length c6) (.slice Ap rk.pairs.length cp) m r rk w6.heap.size g9 (k * 6) o) => allows_spec W _ m hg.pm HSO.out (by omega) o.kind o.key o.value o.old ⟨HZ.out.1, HZ.out.2.1⟩ rk _ hg.prk (by omega)
                  have CB := fun (W : World) (hg : Gx w w9 W (.slice A m.length cap) (.slice A6 r.pairs.length c6) (.slice Ap rk.pairs.length cp) m r rk w6.heap.size g9 (k * 6) o) => allows_ref W _ m hg.pm HSO.out (by omega) o.kind o.key o.value o.old ⟨HZ.out.1, HZ.out.2.1⟩ rk _ hg.prk (by omega)
                  have CS := fun (W : World) (hg : Gx w w9 W (.slice A m.length cap) (.slice A6 r.pairs.length c6) (.slice Ap rk.pairs.length cp) m r rk w6.heap.size g9 (k * 6) o) => same_spec W r rk _ _ hg.prr hg.prk hpl
                  have CT := fun (W : World) (hg : Gx w w9 W (.slice A m.length cap) (.slice A6 r.pairs.length c6) (.slice Ap rk.pairs.length cp) m r rk w6.heap.size g9 (k * 6) o) => sameR_ref W r rk _ _ hg.prr hg.prk hpl
                  have haml := allowsM_len (o := ⟨o.kind, o.key, o.value, o.old⟩) (r := rk) HSO.out
                  obtain ⟨am, ham⟩ : ∃ x, x = allowsM m ⟨o.kind, o.key, o.value, o.old⟩ rk := ⟨_, rfl⟩
                  obtain ⟨ab, hab⟩ : ∃ x, x = allowsB m ⟨o.kind, o.key, o.value, o.old⟩ rk := ⟨_, rfl⟩
                  obtain ⟨sb, hsb⟩ : ∃ x, x = sameR r rk := ⟨_, rfl⟩
                  simp only [← ham, ← hab] at CA CB
                  simp only [← hsb] at CS CT
                  rw [← ham] at haml
                  have HCA : Hid (∀ W, Gx w w9 W (.slice A m.length cap) (.slice A6 r.pairs.length c6) (.slice Ap rk.pairs.length cp) m r rk w6.heap.size g9 (k * 6) o → Calls Try.prog 19 #[.slice A m.length cap, .agg #[.int .i64 o.kind, .string o.key, .string o.value, .string o.old], .agg #[.int .i64 rk.err, .bool rk.had, .bool rk.did, .string rk.value, .int .i64 rk.n, .slice Ap rk.pairs.length cp]] W fun e w' => ∃ v', e = .returned (.tuple #[v', .bool ab]) ∧ Prs w' v' am ∧ Below W.heap.size W w') := Lib.hid CA
                  have HCB : Hid (∀ W, Gx w w9 W (.slice A m.length cap) (.slice A6 r.pairs.length c6) (.slice Ap rk.pairs.length cp) m r rk w6.heap.size g9 (k * 6) o → Calls Try.prog 20 #[.slice A m.length cap, .agg #[.int .i64 o.kind, .string o.key, .string o.value, .string o.old], .agg #[.int .i64 rk.err, .bool rk.had, .bool rk.did, .string rk.value, .int .i64 rk.n, .slice Ap rk.pairs.length cp]] W fun e w' => ∃ v', e = .returned (.tuple #[v', .bool ab]) ∧ Prs w' v' am ∧ Below W.heap.size W w') := Lib.hid CB
                  have HCS : Hid (∀ W, Gx w w9 W (.slice A m.length cap) (.slice A6 r.pairs.length c6) (.slice Ap rk.pairs.length cp) m r rk w6.heap.size g9 (k * 6) o → Calls Try.prog 21 #[.agg #[.int .i64 r.err, .bool r.had, .bool r.did, .string r.value, .int .i64 r.n, .slice A6 r.pairs.length c6], .agg #[.int .i64 rk.err, .bool rk.had, .bool rk.did, .string rk.value, .int .i64 rk.n, .slice Ap rk.pairs.length cp]] W fun e w' => e = .returned (.bool sb) ∧ Below W.heap.size W w') := Lib.hid CS
                  have HCT : Hid (∀ W, Gx w w9 W (.slice A m.length cap) (.slice A6 r.pairs.length c6) (.slice Ap rk.pairs.length cp) m r rk w6.heap.size g9 (k * 6) o → Calls Try.prog 14 #[.agg #[.int .i64 r.err, .bool r.had, .bool r.did, .string r.value, .int .i64 r.n, .slice A6 r.pairs.length c6], .agg #[.int .i64 rk.err, .bool rk.had, .bool rk.did, .string rk.value, .int .i64 rk.n, .slice Ap rk.pairs.length cp]] W fun e w' => e = .returned (.bool sb) ∧ Below W.heap.size W w') := Lib.hid CT
                  clear CA CB CS CT ham hab hsb
                  have hin : (k : Int) < (((l.length + 1 + 1) : Nat) : Int) := by omega
                  have HGd := Lib.hid (HG.out.step (Below.refl _ _).drew)
                  cases ab
                  all_goals cases sb
                  all_goals
                    go_wp2_with fail
                    go_region_held3 (fun w' => w'.cell? ⟨w.heap.size, 0, none⟩ = some (.int .i64 o.kind) ∧ w'.cell? ⟨w.heap.size, 1, none⟩ = some (.string o.key) ∧ w'.cell? ⟨w.heap.size, 2, none⟩ = some (.string o.value) ∧ w'.cell? ⟨w.heap.size, 3, none⟩ = some (.string o.old) ∧ w'.cell? ⟨w6.heap.size, 0, none⟩ = some (.int .i64 r.err) ∧ w'.cell? ⟨w6.heap.size, 1, none⟩ = some (.bool r.had) ∧ w'.cell? ⟨w6.heap.size, 2, none⟩ = some (.bool r.did) ∧ w'.cell? ⟨w6.heap.size, 3, none⟩ = some (.string r.value) ∧ w'.cell? ⟨w6.heap.size, 4, none⟩ = some (.int .i64 r.n) ∧ w'.cell? ⟨w6.heap.size, 5, none⟩ = some (.slice A6 r.pairs.length c6) ∧ w'.cell? ⟨g9, k * 6, none⟩ = some (.int .i64 rk.err) ∧ w'.cell? ⟨g9, k * 6 + 1, none⟩ = some (.bool rk.had) ∧ w'.cell? ⟨g9, k * 6 + 2, none⟩ = some (.bool rk.did) ∧ w'.cell? ⟨g9, k * 6 + 3, none⟩ = some (.string rk.value) ∧ w'.cell? ⟨g9, k * 6 + 4, none⟩ = some (.int .i64 rk.n) ∧ w'.cell? ⟨g9, k * 6 + 5, none⟩ = some (.slice Ap rk.pairs.length cp))
                      (first | exact HGd.out.cells | exact HGa.out.cells | go_keep)
                      ((go_at_call 19; refine (HCA.out _ HGd.out).mono ?_; rintro e wa ⟨va, rfl, hpa, hba⟩; have HGa := Lib.hid (HGd.out.step hba); have PA := Lib.hid hpa; clear hpa hba))
                    go_wp2_with fail
                    have HGe := Lib.hid (HGa.out.step (Below.refl _ _).drew)
                    have PAe := Lib.hid (PA.out.below (Below.refl _ _).drew)
                    clear k5
                    go_region_held3 (fun w' => w'.cell? ⟨w.heap.size, 0, none⟩ = some (.int .i64 o.kind) ∧ w'.cell? ⟨w.heap.size, 1, none⟩ = some (.string o.key) ∧ w'.cell? ⟨w.heap.size, 2, none⟩ = some (.string o.value) ∧ w'.cell? ⟨w.heap.size, 3, none⟩ = some (.string o.old) ∧ w'.cell? ⟨w6.heap.size, 0, none⟩ = some (.int .i64 r.err) ∧ w'.cell? ⟨w6.heap.size, 1, none⟩ = some (.bool r.had) ∧ w'.cell? ⟨w6.heap.size, 2, none⟩ = some (.bool r.did) ∧ w'.cell? ⟨w6.heap.size, 3, none⟩ = some (.string r.value) ∧ w'.cell? ⟨w6.heap.size, 4, none⟩ = some (.int .i64 r.n) ∧ w'.cell? ⟨w6.heap.size, 5, none⟩ = some (.slice A6 r.pairs.length c6) ∧ w'.cell? ⟨g9, k * 6, none⟩ = some (.int .i64 rk.err) ∧ w'.cell? ⟨g9, k * 6 + 1, none⟩ = some (.bool rk.had) ∧ w'.cell? ⟨g9, k * 6 + 2, none⟩ = some (.bool rk.did) ∧ w'.cell? ⟨g9, k * 6 + 3, none⟩ = some (.string rk.value) ∧ w'.cell? ⟨g9, k * 6 + 4, none⟩ = some (.int .i64 rk.n) ∧ w'.cell? ⟨g9, k * 6 + 5, none⟩ = some (.slice Ap rk.pairs.length cp))
                      (first | exact HGe.out.cells | exact HGb.out.cells | go_keep)
                      ((go_at_call 20; refine (HCB.out _ HGe.out).mono ?_; rintro e wb ⟨vb, rfl, hpb, hbb⟩; have HGb := Lib.hid (HGe.out.step hbb); have PAb := Lib.hid (PAe.out.below hbb); have PB := Lib.hid hpb; clear hpb hbb))
                    go_wp2_with fail
                    have HGf := Lib.hid (HGb.out.step (Below.refl _ _).drew)
                    have PAf := Lib.hid (PAb.out.below (Below.refl _ _).drew)
                    have PBf := Lib.hid (PB.out.below (Below.refl _ _).drew)
                    go_region_held3 (fun w' => w'.cell? ⟨w.heap.size, 0, none⟩ = some (.int .i64 o.kind) ∧ w'.cell? ⟨w.heap.size, 1, none⟩ = some (.string o.key) ∧ w'.cell? ⟨w.heap.size, 2, none⟩ = some (.string o.value) ∧ w'.cell? ⟨w.heap.size, 3, none⟩ = some (.string o.old) ∧ w'.cell? ⟨w6.heap.size, 0, none⟩ = some (.int .i64 r.err) ∧ w'.cell? ⟨w6.heap.size, 1, none⟩ = some (.bool r.had) ∧ w'.cell? ⟨w6.heap.size, 2, none⟩ = some (.bool r.did) ∧ w'.cell? ⟨w6.heap.size, 3, none⟩ = some (.string r.value) ∧ w'.cell? ⟨w6.heap.size, 4, none⟩ = some (.int .i64 r.n) ∧ w'.cell? ⟨w6.heap.size, 5, none⟩ = some (.slice A6 r.pairs.length c6) ∧ w'.cell? ⟨g9, k * 6, none⟩ = some (.int .i64 rk.err) ∧ w'.cell? ⟨g9, k * 6 + 1, none⟩ = some (.bool rk.had) ∧ w'.cell? ⟨g9, k * 6 + 2, none⟩ = some (.bool rk.did) ∧ w'.cell? ⟨g9, k * 6 + 3, none⟩ = some (.string rk.value) ∧ w'.cell? ⟨g9, k * 6 + 4, none⟩ = some (.int .i64 rk.n) ∧ w'.cell? ⟨g9, k * 6 + 5, none⟩ = some (.slice Ap rk.pairs.length cp))
                      (first | exact HGf.out.cells | go_keep)
                      (first
                        | (go_at_call 13; refine (sameB_ref _ va vb am am PAf.out PBf.out (by omega)).mono ?_; rw [show decide (am = am) = true from decide_eq_true rfl]; rintro e w' ⟨rfl, hbb⟩; replace HGf := Lib.hid (HGf.out.step hbb); clear hbb)
                        | (go_at_call 21; refine (HCS.out _ HGf.out).mono ?_; rintro e w' ⟨rfl, hbb⟩; replace HGf := Lib.hid (HGf.out.step hbb); clear hbb)
                        | (go_at_call 14; refine (HCT.out _ HGf.out).mono ?_; rintro e w' ⟨rfl, hbb⟩; replace HGf := Lib.hid (HGf.out.step hbb); clear hbb))
                    go_wp2_with fail
                    exact ⟨⟨k + 1, by omega, by go_num, HGf.out.ba⟩, by show (l.length + 1 + 1) - ((k : Int) + 1).toNat < (l.length + 1 + 1) - (k : Int).toNat; omega⟩
              · have BW := Lib.hid (B7.out.trans ((BWA.out.trans (HB.out.mono BWA.out.size)).mono B7.out.size))
                go_wp2_with fail
                refine (awake_any _).mono ?_
                rintro e w12 ⟨rfl, hb⟩
                have B12 := Lib.hid (BW.out.trans (hb.mono BW.out.size))
                clear hb
                go_wp2_with fail
                go_ret
                exact ⟨rfl, B12.out⟩
end Go.Proofs.Ytdhgacionopghaa.Sp
