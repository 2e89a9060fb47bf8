/- order: whole. -/
import Derived.Test.YtdhgacionopghaaGreatDoorOrdRef
import Derived.Deep.OwnRows
namespace Go.Proofs.YtdhgacionopghaaGreatDoor.Od
open Go.RowKit Go.Shelf Dc DcM DcW DcI DcR DcL Sp
set_option linter.unusedVariables false
theorem infoI : (Tryz.prog.info? 3).map (fun i => (i.zero, i.size, i.bytes)) = some (some (.int .i64 0), 1, 8) := by kernel_rfl
def okPre (l : List CV) (t : List Int) (a : Int) : Bool := mappedB l a && decide (t.count a ≤ 1)
theorem count_take_le (row : List Int) (k : Nat) (a : Int) : (row.take k).count a ≤ row.count a := (List.take_sublist k row).count_le a
theorem ok_of_pre {l : List CV} {row : List Int} {k : Nat} {a : Int} (ha : row[k]? = some a) (hall : ∀ x ∈ row.take k, okPre l (row.take k) x = true) (hm : mappedB l a = true) (h0 : (row.take k).count a = 0) :
    ∀ x ∈ row.take (k + 1), okPre l (row.take (k + 1)) x = true := by
  intro x hx
  rw [take_snoc ha] at hx ⊢
  unfold okPre
  rw [List.count_append]
  by_cases he : x = a
  · subst he
    rw [hm, h0]
    simp
  · have hx' : x ∈ row.take k := by
      rcases List.mem_append.1 hx with hx | hx
      · exact hx
      · simp at hx; exact absurd hx he
    have := hall x hx'
    unfold okPre at this
    have hc : [a].count x = 0 := by
      rw [List.count_eq_zero]; simp; exact he
    rw [hc, Nat.add_zero]
    exact this
set_option maxRecDepth 100000 in
set_option maxHeartbeats 16000000 in
theorem whole_any (w : World) (v u : Value) (l : List CV) (row : List Int) (h : Cls w v l) (h' : Its w u row) (hn : l.length < 1000000) (hn' : row.length < 10000) :
    Calls Tryz.prog 29 #[v, u] w fun e w' => e = .returned (.bool (wholeB l row)) ∧ Below w.heap.size w w' := by
  have HL := Lib.hid h
  obtain ⟨A, cap, rfl, hc⟩ := h
  obtain ⟨B, capB, rfl, _, hc'⟩ := h'
  have HC := Lib.hid hc
  have HC' := Lib.hid hc'
  have hmk := run_make_row' (P := Tryz.prog) 23 3 (.int .i64 0) 8 Tryz.underlying23 infoI rfl .i64 .i64 l.length (by omega) (by omega) w
  obtain ⟨W1, hW1⟩ : ∃ W, W = w.alloc (.cells (madeCells #[.int .i64 0] l.length) 3) := ⟨_, rfl⟩
  have hrow1 : W1.rowIs w.heap.size 3 l.length (fun _ => .int .i64 0) := by rw [hW1]; exact World.rowIs_made _ _ _ _
  have hb1 : Below w.heap.size w W1 := by rw [hW1]; exact (Below.refl _ _).alloc (Nat.le_refl _) _
  rw [← hW1] at hmk
  have HR1 := Lib.hid hrow1
  have B1 := Lib.hid hb1
  clear hc hc' hrow1 hb1 hW1
  go_enter Tryz.func29, Tryz.ntmps29
  go_wp2_with fail
  clear hmk
  go_loopw [15] (fun i wr => ∃ k : Nat, k ≤ row.length ∧ i = .int .i64 k ∧ (∀ x ∈ row.take k, okPre l (row.take k) x = true) ∧ wr.rowIs w.heap.size 3 l.length (fun j => .int .i64 (((row.take k).count (j : Int) : Nat) : Int)) ∧ Below w.heap.size w wr) (fun i _ => row.length - (intOf i).toNat)
  case atStart => exact ⟨0, Nat.zero_le _, rfl, fun x hx => by simp at hx, HR1.out, B1.out⟩
  case round =>
    obtain ⟨k, hk, rfl, hall, hrow, hB⟩ := hrel
    have HA := Lib.hid hall
    have HR := Lib.hid hrow
    have HB := Lib.hid hB
    clear hall hrow
    by_cases hp : k < row.length
    · obtain ⟨a, ha⟩ : ∃ a, row[k]? = some a := ⟨_, List.getElem?_eq_getElem hp⟩
      obtain ⟨b, z, rfl, hbl, hcell⟩ := HC'.out k a ha
      have hcell' := (hB.cell (p := ⟨b, z + k, none⟩) hbl).trans hcell
      have HAA := Lib.hid ha
      clear ha hcell hB
      go_wp2_with fail
      refine (mapped_any _ _ l a (HL.out.below HB.out) hn).mono ?_
      cases hm : mappedB l a with
      | false =>
        rintro e w1 ⟨rfl, hw1⟩
        subst hw1
        have HF := Lib.hid (show wholeB l row = false by
          unfold wholeB
          rw [all_bad HAA.out (show okAt l row a = false by unfold okAt; rw [hm]; rfl)]; rfl)
        clear hm
        go_wp2_with fail
        go_ret
        exact ⟨bool_ret HF.out.symm, HB.out⟩
      | true =>
        rintro e w1 ⟨rfl, hw1⟩
        subst hw1
        obtain ⟨n, q, rfl, hnl, hq⟩ := mapped_at hm
        have HM := Lib.hid hm
        have hcn := HR.out.cell hnl
        have hfn := HR.out.frozen n
        obtain ⟨cn, hcn2⟩ : ∃ cn, cn = (row.take k).count (n : Int) := ⟨_, rfl⟩
        rw [← hcn2] at hcn
        have hcb : cn ≤ k := by rw [hcn2]; exact Nat.le_trans List.count_le_length (by simp; omega)
        clear hq hm
        by_cases h0 : cn = 0
        · subst h0
          have H0 := Lib.hid hcn2.symm
          clear hcn2
          go_wp2_with fail
          refine ⟨⟨k + 1, by omega, by go_num, ok_of_pre HAA.out HA.out HM.out H0.out, (HR.out.set n (.int .i64 1)).congr fun j hj => ?_, below_set HB.out (Nat.le_refl _) _ _⟩, by show row.length - ((k : Int) + 1).toNat < row.length - (k : Int).toNat; omega⟩
          rw [take_snoc HAA.out, List.count_append]
          by_cases hjn : j = n
          · subst hjn
            rw [if_pos rfl, H0.out]; simp
          · rw [if_neg hjn, show [(n : Int)].count (j : Int) = 0 by rw [List.count_eq_zero]; simp; omega, Nat.add_zero]
        · have HF := Lib.hid (show wholeB l row = false by
            unfold wholeB
            rw [all_bad HAA.out (show okAt l row (n : Int) = false by
              unfold okAt
              have h1 := count_take_le row (k + 1) (n : Int)
              rw [take_snoc HAA.out, List.count_append, ← hcn2] at h1
              have h2 : [(n : Int)].count (n : Int) = 1 := by simp
              rw [h2] at h1
              rw [decide_eq_false (show ¬ row.count (n : Int) ≤ 1 by omega), Bool.and_false])]; rfl)
          have hpos : 0 < cn := by omega
          clear hcn2
          go_wp2_with fail
          go_ret
          exact ⟨bool_ret HF.out.symm, HB.out⟩
    · have hkk : k = row.length := by omega
      subst hkk
      have hA := HA.out
      rw [List.take_length] at hA
      have HW := Lib.hid (show row.all (okAt l row) = true from List.all_eq_true.2 hA)
      have hR := HR.out
      rw [List.take_length] at hR
      have HRR := Lib.hid hR
      clear HA HR hA hR hB
      go_wp2_with fail
      clear hk hp
      obtain ⟨WB, hWB⟩ : ∃ W, W = wr := ⟨_, rfl⟩
      subst hWB
      go_loopw [39] (fun i wr2 => ∃ k : Nat, k ≤ l.length ∧ i = .int .i64 k ∧ ((List.range l.length).take k).all (hasAt l row) = true ∧ Below WB.heap.size WB wr2) (fun i _ => l.length - (intOf i).toNat)
      case atStart => exact ⟨0, Nat.zero_le _, rfl, rfl, Below.refl _ _⟩
      case round =>
        obtain ⟨k, hk, rfl, hall, hB2⟩ := hrel
        have HA := Lib.hid hall
        have hBW := HB.out.trans (hB2.mono HB.out.size)
        clear hall
        by_cases hp : k < l.length
        · have HK := Lib.hid (show (List.range l.length)[k]? = some k by rw [List.getElem?_range hp])
          obtain ⟨q, hq⟩ : ∃ q, l[k]? = some q := ⟨_, List.getElem?_eq_getElem hp⟩
          obtain ⟨hpq, _, _, _, _, b2, z2, rfl, hbl2, hcell2⟩ := HC.out k q hq
          obtain ⟨Ap, cp, ep, _⟩ := id hpq
          rw [ep] at hcell2
          have k0 : World.cell? _ ⟨b2, z2 + k * 15, none⟩ = some (.int .i64 q.1.thread) := (hBW.cell (p := ⟨b2, z2 + k * 15, none⟩) hbl2).trans (hcell2 0 _ rfl)
          have k1 : World.cell? _ ⟨b2, z2 + k * 15 + 1, none⟩ = some (.int .i64 q.1.index) := (hBW.cell (p := ⟨b2, z2 + k * 15 + 1, none⟩) hbl2).trans (hcell2 1 _ rfl)
          have k2 : World.cell? _ ⟨b2, z2 + k * 15 + 2, none⟩ = some (.int .i64 q.1.op.kind) := (hBW.cell (p := ⟨b2, z2 + k * 15 + 2, none⟩) hbl2).trans (hcell2 2 _ rfl)
          have k3 : World.cell? _ ⟨b2, z2 + k * 15 + 3, none⟩ = some (.string q.1.op.key) := (hBW.cell (p := ⟨b2, z2 + k * 15 + 3, none⟩) hbl2).trans (hcell2 3 _ rfl)
          have k4 : World.cell? _ ⟨b2, z2 + k * 15 + 4, none⟩ = some (.string q.1.op.value) := (hBW.cell (p := ⟨b2, z2 + k * 15 + 4, none⟩) hbl2).trans (hcell2 4 _ rfl)
          have k5 : World.cell? _ ⟨b2, z2 + k * 15 + 5, none⟩ = some (.string q.1.op.old) := (hBW.cell (p := ⟨b2, z2 + k * 15 + 5, none⟩) hbl2).trans (hcell2 5 _ rfl)
          have k6 : World.cell? _ ⟨b2, z2 + k * 15 + 6, none⟩ = some (.int .i64 q.1.begin_) := (hBW.cell (p := ⟨b2, z2 + k * 15 + 6, none⟩) hbl2).trans (hcell2 6 _ rfl)
          have k7 : World.cell? _ ⟨b2, z2 + k * 15 + 7, none⟩ = some (.int .i64 q.1.end_) := (hBW.cell (p := ⟨b2, z2 + k * 15 + 7, none⟩) hbl2).trans (hcell2 7 _ rfl)
          have k8 : World.cell? _ ⟨b2, z2 + k * 15 + 8, none⟩ = some (.bool q.1.done) := (hBW.cell (p := ⟨b2, z2 + k * 15 + 8, none⟩) hbl2).trans (hcell2 8 _ rfl)
          have k9 : World.cell? _ ⟨b2, z2 + k * 15 + 9, none⟩ = some (.int .i64 q.1.reply.err) := (hBW.cell (p := ⟨b2, z2 + k * 15 + 9, none⟩) hbl2).trans (hcell2 9 _ rfl)
          have k10 : World.cell? _ ⟨b2, z2 + k * 15 + 10, none⟩ = some (.bool q.1.reply.had) := (hBW.cell (p := ⟨b2, z2 + k * 15 + 10, none⟩) hbl2).trans (hcell2 10 _ rfl)
          have k11 : World.cell? _ ⟨b2, z2 + k * 15 + 11, none⟩ = some (.bool q.1.reply.did) := (hBW.cell (p := ⟨b2, z2 + k * 15 + 11, none⟩) hbl2).trans (hcell2 11 _ rfl)
          have k12 : World.cell? _ ⟨b2, z2 + k * 15 + 12, none⟩ = some (.string q.1.reply.value) := (hBW.cell (p := ⟨b2, z2 + k * 15 + 12, none⟩) hbl2).trans (hcell2 12 _ rfl)
          have k13 : World.cell? _ ⟨b2, z2 + k * 15 + 13, none⟩ = some (.int .i64 q.1.reply.n) := (hBW.cell (p := ⟨b2, z2 + k * 15 + 13, none⟩) hbl2).trans (hcell2 13 _ rfl)
          have k14 : World.cell? _ ⟨b2, z2 + k * 15 + 14, none⟩ = some (.slice Ap q.1.reply.pairs.length cp) := (hBW.cell (p := ⟨b2, z2 + k * 15 + 14, none⟩) hbl2).trans (hcell2 14 _ rfl)
          have hgw : w.heap.size < WB.heap.size := HRR.out.lt
          have hrw := HRR.out.of_block (hB2.block _ hgw)
          have hcn := hrw.cell hp
          obtain ⟨cn, hcn2⟩ : ∃ cn, cn = row.count (k : Int) := ⟨_, rfl⟩
          rw [← hcn2] at hcn
          have hrwa := hrw.alloc (.cells #[.int .i64 q.1.thread, .int .i64 q.1.index, .int .i64 q.1.op.kind, .string q.1.op.key, .string q.1.op.value, .string q.1.op.old, .int .i64 q.1.begin_, .int .i64 q.1.end_, .bool q.1.done, .int .i64 q.1.reply.err, .bool q.1.reply.had, .bool q.1.reply.did, .string q.1.reply.value, .int .i64 q.1.reply.n, .slice Ap q.1.reply.pairs.length cp] 44)
          have hcna := hrwa.cell hp
          rw [← hcn2] at hcna
          have HD := Lib.hid (show doneAt l k = q.1.done by unfold doneAt; rw [hq])
          have HBW := Lib.hid hBW
          have HB2 := Lib.hid hB2
          have hs2 := hB2.size
          have HBA := Lib.hid (hBW.alloc hBW.size (.cells #[.int .i64 q.1.thread, .int .i64 q.1.index, .int .i64 q.1.op.kind, .string q.1.op.key, .string q.1.op.value, .string q.1.op.old, .int .i64 q.1.begin_, .int .i64 q.1.end_, .bool q.1.done, .int .i64 q.1.reply.err, .bool q.1.reply.had, .bool q.1.reply.did, .string q.1.reply.value, .int .i64 q.1.reply.n, .slice Ap q.1.reply.pairs.length cp] 44))
          have HB2A := Lib.hid (hB2.alloc hB2.size (.cells #[.int .i64 q.1.thread, .int .i64 q.1.index, .int .i64 q.1.op.kind, .string q.1.op.key, .string q.1.op.value, .string q.1.op.old, .int .i64 q.1.begin_, .int .i64 q.1.end_, .bool q.1.done, .int .i64 q.1.reply.err, .bool q.1.reply.had, .bool q.1.reply.did, .string q.1.reply.value, .int .i64 q.1.reply.n, .slice Ap q.1.reply.pairs.length cp] 44))
          have hcb : cn ≤ row.length := by rw [hcn2]; exact List.count_le_length
          clear hpq hcell2 hq hBW hB2 hrw hrwa ep
          obtain ⟨cd, hcd⟩ : ∃ cd, cd = q.1.done := ⟨_, rfl⟩
          rw [← hcd] at k8 hcna HBA HB2A HD
          clear hcd
          cases cd with
          | false =>
            have HO := Lib.hid (show hasAt l row k = true by unfold hasAt; rw [HD.out]; simp)
            go_wp2_with fail
            exact ⟨⟨k + 1, by omega, by go_num, by rw [all_snoc HK.out HA.out, HO.out], HB2A.out⟩, by show l.length - ((k : Int) + 1).toNat < l.length - (k : Int).toNat; omega⟩
          | true =>
            go_wp2_with fail
            refine (mapped_any _ _ l (k : Int) (HL.out.below HBA.out) hn).mono ?_
            cases hm : mappedB l (k : Int) with
            | false =>
              rintro e w1 ⟨rfl, hw1⟩
              subst hw1
              have HO := Lib.hid (show hasAt l row k = true by unfold hasAt; rw [hm]; rfl)
              clear hm
              go_wp2_with fail
              exact ⟨⟨k + 1, by omega, by go_num, by rw [all_snoc HK.out HA.out, HO.out], HB2A.out⟩, by show l.length - ((k : Int) + 1).toNat < l.length - (k : Int).toNat; omega⟩
            | true =>
              rintro e w1 ⟨rfl, hw1⟩
              subst hw1
              have HM := Lib.hid hm
              clear hm
              by_cases h0 : cn = 0
              · have HF := Lib.hid (show wholeB l row = false by
                  unfold wholeB
                  rw [all_bad (f := hasAt l row) HK.out (show hasAt l row k = false by unfold hasAt; rw [HM.out, HD.out, decide_eq_true (show row.count (k : Int) = 0 by omega)]; rfl)]; simp)
                subst h0
                clear hcn2
                go_wp2_with fail
                go_ret
                exact ⟨bool_ret HF.out.symm, HBA.out⟩
              · have HO := Lib.hid (show hasAt l row k = true by unfold hasAt; rw [decide_eq_false (show ¬ row.count (k : Int) = 0 by omega)]; simp)
                have hpos : ¬ (cn : Int) = 0 := by omega
                clear hcn2
                go_wp2_with fail
                exact ⟨⟨k + 1, by omega, by go_num, by rw [all_snoc HK.out HA.out, HO.out], HB2A.out⟩, by show l.length - ((k : Int) + 1).toNat < l.length - (k : Int).toNat; omega⟩
        · have HT := Lib.hid (show wholeB l row = true by
            have := HA.out
            rw [List.take_of_length_le (by simp; omega)] at this
            unfold wholeB
            rw [HW.out, this]; rfl)
          have HBW := Lib.hid hBW
          clear hBW hB2
          go_wp2_with fail
          go_ret
          exact ⟨bool_ret HT.out.symm, HBW.out⟩
end Go.Proofs.YtdhgacionopghaaGreatDoor.Od
