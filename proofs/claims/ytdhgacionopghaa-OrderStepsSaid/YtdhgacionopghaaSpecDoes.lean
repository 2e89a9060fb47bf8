/- spec: the law SpecDoes. -/
import Derived.Test.YtdhgacionopghaaSpecAwake
import Derived.Test.YtdhgacionopghaaOpenRows
namespace Go.Proofs.Ytdhgacionopghaa.Sp
open Go.RowKit Go.Shelf Dc DcM DcW DcI DcR DcL
set_option linter.unusedVariables false
/-- A slice of operations lies in w. -/
def Oprs (w : World) (v : Value) (l : List OpL) : Prop := ∃ (A : Option Addr) (cap : Nat), v = .slice A l.length cap ∧
  ∀ j o, l[j]? = some o → o.key.size ≤ maxLen ∧ o.value.size ≤ maxLen ∧ o.old.size ≤ maxLen ∧ ∃ b z, A = some ⟨b, z, none⟩ ∧ b < w.heap.size ∧ w.cell? ⟨b, z + j * 4, none⟩ = some (.int .i64 o.kind) ∧ w.cell? ⟨b, z + j * 4 + 1, none⟩ = some (.string o.key) ∧ w.cell? ⟨b, z + j * 4 + 2, none⟩ = some (.string o.value) ∧ w.cell? ⟨b, z + j * 4 + 3, none⟩ = some (.string o.old)
set_option maxRecDepth 100000 in
theorem open_oprs {H : Type} {enc : TypeId × Value → H} {W : World} {base : Nat} {spare : Nat → Bool} {held : Bool} {r : Reach} {b0 : Nat} {v : Value} {d : DataW H} {ps : List MemPlace} (hval : Value.okWide Try.prog W r b0 22 v)
    (h : DataW.Trod enc Try.prog W base spare held 22 v d ps) : ∃ l : List OpL, Oprs W v l ∧ l.length ≤ maxLen := by
  have hu := Try.underlying27
  obtain ⟨A, len, cap, rfl, hlc, hcm, hx⟩ := Opn.open_rows Try.underlying22 hu (by kernel_rfl) (by kernel_rfl) (by decide) hval h
  obtain ⟨l, hl, hp⟩ := Opn.list_of (p := fun i (o : OpL) => o.key.size ≤ maxLen ∧ o.value.size ≤ maxLen ∧ o.old.size ≤ maxLen ∧ ∃ b z, A = some ⟨b, z, none⟩ ∧ b < W.heap.size ∧ W.cell? ⟨b, z + i * 4, none⟩ = some (.int .i64 o.kind) ∧ W.cell? ⟨b, z + i * 4 + 1, none⟩ = some (.string o.key) ∧ W.cell? ⟨b, z + i * 4 + 2, none⟩ = some (.string o.value) ∧ W.cell? ⟨b, z + i * 4 + 3, none⟩ = some (.string o.old)) (len := len) (fun i hi => by
    obtain ⟨b, z, hA, hf⟩ := hx i hi
    obtain ⟨u0, y0, n0, c0, t0⟩ := hf 0 _ rfl
    obtain ⟨u1, y1, n1, c1, t1⟩ := hf 1 _ rfl
    obtain ⟨u2, y2, n2, c2, t2⟩ := hf 2 _ rfl
    obtain ⟨u3, y3, n3, c3, t3⟩ := hf 3 _ rfl
    obtain ⟨k, rfl, _⟩ := Opn.cell_int Try.underlying3 t0
    obtain ⟨s1, rfl, l1⟩ := Opn.cell_str Try.underlying9 t1
    obtain ⟨s2, rfl, l2⟩ := Opn.cell_str Try.underlying9 t2
    obtain ⟨s3, rfl, l3⟩ := Opn.cell_str Try.underlying9 t3
    exact ⟨⟨k, s1, s2, s3⟩, l1, l2, l3, b, z, hA, World.block_lt_of_cell? W _ c0, c0, c1, c2, c3⟩)
  subst hl
  exact ⟨l, ⟨A, cap, rfl, hp⟩, Nat.le_trans hlc hcm⟩
structure Fx (w W : World) (n y m x pr pq : Value) (l l' : List Pr) (r : Rep) (R Q b z : Nat) (o : OpL) : Prop where
  below : Below w.heap.size w W
  pn : Prs W n l'
  py : Prs W y l'
  pm : Prs W m l
  px : Prs W x l
  prr : Prs W pr r.pairs
  prq : Prs W pq r.pairs
  lr : R < W.heap.size
  lq : Q < W.heap.size
  lb : b < W.heap.size
  cells : W.cell? ⟨R, 0, none⟩ = some (.int .i64 r.err) ∧ W.cell? ⟨R, 1, none⟩ = some (.bool r.had) ∧ W.cell? ⟨R, 2, none⟩ = some (.bool r.did) ∧ W.cell? ⟨R, 3, none⟩ = some (.string r.value) ∧ W.cell? ⟨R, 4, none⟩ = some (.int .i64 r.n) ∧ W.cell? ⟨R, 5, none⟩ = some (pr) ∧ W.cell? ⟨Q, 0, none⟩ = some (.int .i64 r.err) ∧ W.cell? ⟨Q, 1, none⟩ = some (.bool r.had) ∧ W.cell? ⟨Q, 2, none⟩ = some (.bool r.did) ∧ W.cell? ⟨Q, 3, none⟩ = some (.string r.value) ∧ W.cell? ⟨Q, 4, none⟩ = some (.int .i64 r.n) ∧ W.cell? ⟨Q, 5, none⟩ = some (pq) ∧ W.cell? ⟨b, z, none⟩ = some (.int .i64 o.kind) ∧ W.cell? ⟨b, z + 1, none⟩ = some (.string o.key) ∧ W.cell? ⟨b, z + 2, none⟩ = some (.string o.value) ∧ W.cell? ⟨b, z + 3, none⟩ = some (.string o.old)
theorem Fx.step {w W W' : World} {n y m x pr pq : Value} {l l' : List Pr} {r : Rep} {R Q b z : Nat} {o : OpL} (h : Fx w W n y m x pr pq l l' r R Q b z o) (hb : Below W.heap.size W W') : Fx w W' n y m x pr pq l l' r R Q b z o := by
  obtain ⟨h1, h2, h3, h4, h5, h6, h7, h8, h9, h10, c⟩ := h
  refine ⟨h1.trans (hb.mono h1.size), h2.below hb, h3.below hb, h4.below hb, h5.below hb, h6.below hb, h7.below hb, Nat.lt_of_lt_of_le h8 hb.size, Nat.lt_of_lt_of_le h9 hb.size, Nat.lt_of_lt_of_le h10 hb.size, ?_⟩
  have cr := fun k => hb.cell (p := ⟨R, k, none⟩) h8
  have cq := fun k => hb.cell (p := ⟨Q, k, none⟩) h9
  have cb := fun k => hb.cell (p := ⟨b, k, none⟩) h10
  rw [cr, cr, cr, cr, cr, cr, cq, cq, cq, cq, cq, cq, cb, cb, cb, cb]
  exact c
theorem sameB_ref (w : World) (v u : Value) (l m : List Pr) (h : Prs w v l) (h' : Prs w u m) (hn : l.length < 1000000) :
    Calls Try.prog 13 #[v, u] w fun e w' => e = .returned (.bool (decide (l = m))) ∧ Below w.heap.size w w' :=
  (same_ref w v u l m h h' hn).mono fun e w' ⟨he, n, hw⟩ => ⟨he, by rw [hw]; exact dn (Below.refl _ _) n⟩
theorem rightB_spec (w : World) (v : Value) (l : List Pr) (h : Prs w v l) (hn : l.length < 1000000) :
    Calls Try.prog 17 #[v] w fun e w' => e = .returned (.bool (decide (Sorted l))) ∧ Below w.heap.size w w' :=
  (right_spec w v l h hn).mono fun e w' ⟨he, n, hw⟩ => ⟨he, by rw [hw]; exact dn (Below.refl _ _) n⟩
theorem sameR_self (r : Rep) : sameR r r = true := by simp [sameR]
theorem pairs_len {m : List Pr} {o : OpL} (h : m.length < 99999) : (doR m o).pairs.length < 1000000 := by
  unfold doR keyedR
  repeat' split
  all_goals first | omega | (simp; done) | (simp; omega)

set_option maxRecDepth 100000 in
set_option maxHeartbeats 16000000 in
theorem does_any (w : World) (v : Value) (ops : List OpL) (h : Oprs w v ops) (hn : ops.length ≤ maxLen) : Calls Try.prog 3 #[v] w fun e w' => e = .returned (.bool true) ∧ Below w.heap.size w w' := by
  obtain ⟨A, cap, rfl, hc⟩ := h
  have HC := Lib.hid hc
  clear hc
  by_cases hl : 60 < ops.length
  · go_enter Try.func3, Try.ntmps3
    go_wp2_with fail
    refine (awake_any _).mono ?_
    rintro e w1 ⟨rfl, hb⟩
    have HB := Lib.hid hb
    clear hb
    go_wp2_with fail
    go_ret
    exact ⟨rfl, HB.out⟩
  · go_enter Try.func3, Try.ntmps3
    go_wp2_with fail
    go_loopw [3, 4, 5] (fun m x i wr => ∃ (k : Nat) (l : List Pr), k ≤ ops.length ∧ i = .int .i64 k ∧ Sorted l ∧ l.length ≤ k ∧ Prs wr m l ∧ Prs wr x l ∧ Below w.heap.size w wr) (fun _ _ i _ => ops.length - (intOf i).toNat)
    case atStart =>
      exact ⟨0, [], Nat.zero_le _, rfl, List.Pairwise.nil, Nat.le_refl _, ⟨_, 0, rfl, Nat.le_refl _, fun j p hj => by simp at hj⟩, ⟨_, 0, rfl, Nat.le_refl _, fun j p hj => by simp at hj⟩, ((Below.refl _ _).alloc (Nat.le_refl _) _).alloc (by simp) _⟩
    case round =>
      obtain ⟨k, l, hk, rfl, hs, hlen, hpm, hpx, hB⟩ := hrel
      by_cases hp : k < ops.length
      · obtain ⟨o, ho⟩ : ∃ o, ops[k]? = some o := ⟨_, List.getElem?_eq_getElem hp⟩
        obtain ⟨l1, l2, l3, b, z, rfl, hbl, c0, c1, c2, c3⟩ := HC.out k _ ho
        have d0 := (hB.cell (p := ⟨b, z + k * 4, none⟩) hbl).trans c0
        have d1 := (hB.cell (p := ⟨b, z + k * 4 + 1, none⟩) hbl).trans c1
        have d2 := (hB.cell (p := ⟨b, z + k * 4 + 2, none⟩) hbl).trans c2
        have d3 := (hB.cell (p := ⟨b, z + k * 4 + 3, none⟩) hbl).trans c3
        have hbw : b < wr.heap.size := Nat.lt_of_lt_of_le hbl hB.size
        have HS := Lib.hid hs
        have HPM := Lib.hid hpm
        have HPX := Lib.hid hpx
        have HB := Lib.hid hB
        have L1 := Lib.hid l1
        have L2 := Lib.hid l2
        have L3 := Lib.hid l3
        clear ho c0 c1 c2 c3 hs hpm hpx hB l1 l2 l3
        go_wp2_with fail
        refine (short_any wr o.kind o.key o.value o.old L1.out L2.out L3.out).mono ?_
        cases hsh : shortB ⟨o.kind, o.key, o.value, o.old⟩ with
        | false =>
          rintro e w2 ⟨rfl, hb2⟩
          have B2 := Lib.hid (HB.out.trans (hb2.mono HB.out.size))
          clear hb2 hsh d0 d1 d2 d3
          go_wp2_with fail
          refine (awake_any _).mono ?_
          rintro e w3 ⟨rfl, hb3⟩
          have B3 := Lib.hid (B2.out.trans (hb3.mono B2.out.size))
          clear hb3
          go_wp2_with fail
          go_ret
          exact ⟨rfl, B3.out⟩
        | true =>
          rintro e w2 ⟨rfl, hb2⟩
          have f0 := (hb2.cell (p := ⟨b, z + k * 4, none⟩) hbw).trans d0
          have f1 := (hb2.cell (p := ⟨b, z + k * 4 + 1, none⟩) hbw).trans d1
          have f2 := (hb2.cell (p := ⟨b, z + k * 4 + 2, none⟩) hbw).trans d2
          have f3 := (hb2.cell (p := ⟨b, z + k * 4 + 3, none⟩) hbw).trans d3
          have hbw2 := Nat.lt_of_lt_of_le hbw hb2.size
          have B2 := Lib.hid (HB.out.trans (hb2.mono HB.out.size))
          have PM2 := Lib.hid (HPM.out.below hb2)
          have PX2 := Lib.hid (HPX.out.below hb2)
          clear hb2 hsh d0 d1 d2 d3
          go_wp2_with fail
          refine (do_spec w2 _ l PM2.out HS.out (by omega) o.kind o.key o.value o.old ⟨L1.out, L2.out⟩).mono ?_
          have hpl := pairs_len (o := ⟨o.kind, o.key, o.value, o.old⟩) (show l.length < 99999 by omega)
          have hll := length_doM (o := ⟨o.kind, o.key, o.value, o.old⟩) HS.out
          have HSD := Lib.hid (sorted_doM (o := ⟨o.kind, o.key, o.value, o.old⟩) HS.out)
          have CR := fun (W : World) (x : Value) (hx : Prs W x l) => do_ref W x l hx HS.out (by omega) o.kind o.key o.value o.old ⟨L1.out, L2.out⟩
          obtain ⟨r, hr⟩ : ∃ r, r = doR l ⟨o.kind, o.key, o.value, o.old⟩ := ⟨_, rfl⟩
          obtain ⟨l', hl'⟩ : ∃ l', l' = doM l ⟨o.kind, o.key, o.value, o.old⟩ := ⟨_, rfl⟩
          rw [← hr, ← hl']
          rw [← hr] at hpl
          rw [← hl'] at hll HSD
          simp only [← hr, ← hl'] at CR
          have HCR := Lib.hid CR
          clear CR hr hl'
          unfold repC
          rintro e w3 ⟨v3, p3, rfl, hn3, hq3, hb3⟩
          obtain ⟨A3, c3, e3, _⟩ := id hq3
          subst e3
          obtain ⟨W4, hW4⟩ : ∃ W, W = w3.alloc (.cells #[.int .i64 r.err, .bool r.had, .bool r.did, .string r.value, .int .i64 r.n, .slice A3 r.pairs.length c3] 30) := ⟨_, rfl⟩
          have hb4 : Below w3.heap.size w3 W4 := by rw [hW4]; exact (Below.refl _ _).alloc (Nat.le_refl _) _
          have hr4 : W4.heap[w3.heap.size]? = some (.cells #[.int .i64 r.err, .bool r.had, .bool r.did, .string r.value, .int .i64 r.n, .slice A3 r.pairs.length c3] 30 (0, 0)) := by rw [hW4]; exact heap_alloc_new w3 _
          have hs4 : W4.heap.size = w3.heap.size + 1 := by rw [hW4]; simp
          have hbw3 := Nat.lt_of_lt_of_le hbw2 hb3.size
          have g0 := ((hb4.cell (p := ⟨b, z + k * 4, none⟩) hbw3).trans (hb3.cell (p := ⟨b, z + k * 4, none⟩) hbw2)).trans f0
          have g1 := ((hb4.cell (p := ⟨b, z + k * 4 + 1, none⟩) hbw3).trans (hb3.cell (p := ⟨b, z + k * 4 + 1, none⟩) hbw2)).trans f1
          have g2 := ((hb4.cell (p := ⟨b, z + k * 4 + 2, none⟩) hbw3).trans (hb3.cell (p := ⟨b, z + k * 4 + 2, none⟩) hbw2)).trans f2
          have g3 := ((hb4.cell (p := ⟨b, z + k * 4 + 3, none⟩) hbw3).trans (hb3.cell (p := ⟨b, z + k * 4 + 3, none⟩) hbw2)).trans f3
          have B4 := Lib.hid ((B2.out.trans (hb3.mono B2.out.size)).trans (hb4.mono (B2.out.trans (hb3.mono B2.out.size)).size))
          have N4 := Lib.hid (hn3.below hb4)
          have Q4 := Lib.hid (hq3.below hb4)
          have PM4 := Lib.hid ((PM2.out.below hb3).below hb4)
          have PX4 := Lib.hid ((PX2.out.below hb3).below hb4)
          have R4 := Lib.hid hr4
          have HS4 := Lib.hid hs4
          have G0 := Lib.hid (And.intro g0 (And.intro g1 (And.intro g2 g3)))
          rw [hW4] at g0 g1 g2 g3
          have HW4 := Lib.hid hW4
          clear hb3 hn3 hq3 hb4 hr4 hs4 hW4 f0 f1 f2 f3
          dsimp only
          go_wp2_with fail
          rw [← HW4.out]
          refine (HCR.out W4 _ PX4.out).mono ?_
          unfold repC
          rintro e w5 ⟨v5, p5, rfl, hn5, hq5, hb5⟩
          obtain ⟨A5, c5, e5, _⟩ := id hq5
          subst e5
          obtain ⟨W6, hW6⟩ : ∃ W, W = w5.alloc (.cells #[.int .i64 r.err, .bool r.had, .bool r.did, .string r.value, .int .i64 r.n, .slice A5 r.pairs.length c5] 30) := ⟨_, rfl⟩
          have hb6 : Below w5.heap.size w5 W6 := by rw [hW6]; exact (Below.refl _ _).alloc (Nat.le_refl _) _
          have hr6 : W6.heap[w5.heap.size]? = some (.cells #[.int .i64 r.err, .bool r.had, .bool r.did, .string r.value, .int .i64 r.n, .slice A5 r.pairs.length c5] 30 (0, 0)) := by rw [hW6]; exact heap_alloc_new w5 _
          have hs6 : W6.heap.size = w5.heap.size + 1 := by rw [hW6]; simp
          have hz5 := hb5.size
          rw [HS4.out] at hz5
          have hr6' := ((hb6.block w3.heap.size (by omega)).trans (hb5.block _ (by rw [HS4.out]; omega))).trans R4.out
          have cc : ∀ q : Nat, W6.cell? ⟨b, q, none⟩ = W4.cell? ⟨b, q, none⟩ := fun q => (hb6.cell (p := ⟨b, q, none⟩) (show b < w5.heap.size by omega)).trans (hb5.cell (p := ⟨b, q, none⟩) (show b < W4.heap.size by rw [HS4.out]; omega))
          have a0 := cell_of hr6' 0
          have a1 := cell_of hr6' 1
          have a2 := cell_of hr6' 2
          have a3 := cell_of hr6' 3
          have a4 := cell_of hr6' 4
          have a5 := cell_of hr6' 5
          have b0 := cell_of hr6 0
          have b1 := cell_of hr6 1
          have b2 := cell_of hr6 2
          have b3 := cell_of hr6 3
          have b4 := cell_of hr6 4
          have b5 := cell_of hr6 5
          simp only [List.getElem?_toArray, List.getElem?_cons_succ, List.getElem?_cons_zero] at a0 a1 a2 a3 a4 a5 b0 b1 b2 b3 b4 b5
          have HF0 : Fx w W6 v3 v5 u3 u4 (.slice A3 r.pairs.length c3) (.slice A5 r.pairs.length c5) l l' r w3.heap.size w5.heap.size b (z + k * 4) o :=
            ⟨(B4.out.trans (hb5.mono B4.out.size)).trans (hb6.mono (B4.out.trans (hb5.mono B4.out.size)).size), (N4.out.below hb5).below hb6, hn5.below hb6, (PM4.out.below hb5).below hb6, (PX4.out.below hb5).below hb6, (Q4.out.below hb5).below hb6, hq5.below hb6, by omega, by omega, by omega,
              a0, a1, a2, a3, a4, a5, b0, b1, b2, b3, b4, b5, (cc _).trans G0.out.1, (cc _).trans G0.out.2.1, (cc _).trans G0.out.2.2.1, (cc _).trans G0.out.2.2.2⟩
          have HF := Lib.hid (HF0.step ((Below.refl _ _).drew))
          have HW6 := Lib.hid hW6
          clear HF0 hb5 hn5 hq5 hb6 hr6 hr6' hs6 hW6 g0 g1 g2 g3 cc a0 a1 a2 a3 a4 a5 b0 b1 b2 b3 b4 b5
          have hin : (k : Int) < (ops.length : Int) := by omega
          dsimp only
          go_wp2_with fail
          rw [← HW6.out]
          obtain ⟨lb, hlb⟩ : ∃ lb, lb = long ⟨o.kind, o.key, o.value, o.old⟩ := ⟨_, rfl⟩
          have CL1 := fun (W : World) => long_spec W o.kind o.key o.value o.old L1.out L2.out
          have CL2 := fun (W : World) => long_ref W o.kind o.key o.value o.old L1.out L2.out
          simp only [← hlb] at CL1 CL2
          have HCL1 := Lib.hid CL1
          have HCL2 := Lib.hid CL2
          clear CL1 CL2 hlb
          have C14 : ∀ W, Fx w W v3 v5 u3 u4 (.slice A3 r.pairs.length c3) (.slice A5 r.pairs.length c5) l l' r w3.heap.size w5.heap.size b (z + k * 4) o → Calls Try.prog 14 #[.agg #[.int .i64 r.err, .bool r.had, .bool r.did, .string r.value, .int .i64 r.n, .slice A3 r.pairs.length c3], .agg #[.int .i64 r.err, .bool r.had, .bool r.did, .string r.value, .int .i64 r.n, .slice A5 r.pairs.length c5]] W fun e w' => e = .returned (.bool true) ∧ Below W.heap.size W w' := fun W hf => by
            have hc := sameR_ref W r r _ _ hf.prr hf.prq hpl
            rw [sameR_self] at hc
            exact hc
          have HC14 := Lib.hid C14
          clear C14
          cases lb
          all_goals
            go_region_held3 (fun w' => w'.cell? ⟨w3.heap.size, 0, none⟩ = some (.int .i64 r.err) ∧ w'.cell? ⟨w3.heap.size, 1, none⟩ = some (.bool r.had) ∧ w'.cell? ⟨w3.heap.size, 2, none⟩ = some (.bool r.did) ∧ w'.cell? ⟨w3.heap.size, 3, none⟩ = some (.string r.value) ∧ w'.cell? ⟨w3.heap.size, 4, none⟩ = some (.int .i64 r.n) ∧ w'.cell? ⟨w3.heap.size, 5, none⟩ = some (.slice A3 r.pairs.length c3) ∧ w'.cell? ⟨w5.heap.size, 0, none⟩ = some (.int .i64 r.err) ∧ w'.cell? ⟨w5.heap.size, 1, none⟩ = some (.bool r.had) ∧ w'.cell? ⟨w5.heap.size, 2, none⟩ = some (.bool r.did) ∧ w'.cell? ⟨w5.heap.size, 3, none⟩ = some (.string r.value) ∧ w'.cell? ⟨w5.heap.size, 4, none⟩ = some (.int .i64 r.n) ∧ w'.cell? ⟨w5.heap.size, 5, none⟩ = some (.slice A5 r.pairs.length c5) ∧ w'.cell? ⟨b, z + k * 4, none⟩ = some (.int .i64 o.kind) ∧ w'.cell? ⟨b, z + k * 4 + 1, none⟩ = some (.string o.key) ∧ w'.cell? ⟨b, z + k * 4 + 2, none⟩ = some (.string o.value) ∧ w'.cell? ⟨b, z + k * 4 + 3, none⟩ = some (.string o.old))
              (first | exact HF.out.cells | go_keep)
              (first
                | (go_at_call 13; with_reducible refine (sameB_ref _ v3 v5 l' l' HF.out.pn HF.out.py (by omega)).mono ?_; rw [show decide (l' = l') = true from decide_eq_true rfl]; rintro e w' ⟨rfl, hbb⟩; replace HF := Lib.hid (HF.out.step hbb); clear hbb)
                | (go_at_call 13; with_reducible refine (sameB_ref _ u3 u4 l l HF.out.pm HF.out.px (by omega)).mono ?_; rw [show decide (l = l) = true from decide_eq_true rfl]; rintro e w' ⟨rfl, hbb⟩; replace HF := Lib.hid (HF.out.step hbb); clear hbb)
                | (go_at_call 14; refine (HC14.out _ HF.out).mono ?_; rintro e w' ⟨rfl, hbb⟩; replace HF := Lib.hid (HF.out.step hbb); clear hbb)
                | (go_at_call 15; refine (HCL1.out _).mono ?_; rintro e w' ⟨rfl, hbb⟩; replace HF := Lib.hid (HF.out.step hbb); clear hbb)
                | (go_at_call 16; refine (HCL2.out _).mono ?_; rintro e w' ⟨rfl, hbb⟩; replace HF := Lib.hid (HF.out.step hbb); clear hbb)
                | (go_at_call 17; refine (rightB_spec _ v3 l' HF.out.pn (by omega)).mono ?_; rw [decide_eq_true HSD.out]; rintro e w' ⟨rfl, hbb⟩; replace HF := Lib.hid (HF.out.step hbb); clear hbb))
          all_goals go_wp2_with fail
          all_goals exact ⟨⟨k + 1, l', by omega, by go_num, HSD.out, by omega, HF.out.pn, HF.out.py, HF.out.below⟩, by show ops.length - ((k : Int) + 1).toNat < ops.length - (k : Int).toNat; omega⟩
      · have HB := Lib.hid hB
        clear hpm hpx hB hs hlen
        go_wp2_with fail
        refine (awake_any _).mono ?_
        rintro e w2 ⟨rfl, hb⟩
        have HB2 := Lib.hid (HB.out.trans (hb.mono HB.out.size))
        clear hb
        go_wp2_with fail
        go_ret
        exact ⟨rfl, HB2.out⟩
end Go.Proofs.Ytdhgacionopghaa.Sp
