/- order: the reference's Behind. -/
import Derived.Test.YtdhgacionopghaaGreatDoorOrdRef
import Derived.Test.YtdhgacionopghaaGreatDoorSpecRef
namespace Go.Proofs.YtdhgacionopghaaGreatDoor.Od
open Go.RowKit Go.Shelf Dc DcM DcW DcI DcR DcL Sp
set_option linter.unusedVariables false
set_option maxRecDepth 100000 in
set_option maxHeartbeats 16000000 in
theorem behind_ref (w : World) (v u : Value) (l : List CV) (row : List Int) (p : Nat) (h : Cls w v l) (h' : Its w u row) (hn : l.length < 1000000) (hn' : row.length < 10000) (hp : p ≤ row.length) :
    Calls Tryz.prog 28 #[v, u, .int .i64 p] w fun e w' => ∃ v', e = .returned v' ∧ Prs w' v' (behindM l (row.take p)) ∧ Below w.heap.size w w' := by
  have HL := Lib.hid h
  obtain ⟨A, cap, rfl, hc⟩ := h
  obtain ⟨B, capB, rfl, _, hc'⟩ := h'
  have HC := Lib.hid hc
  have HC' := Lib.hid hc'
  clear hc hc'
  go_enter Tryz.func28, Tryz.ntmps28
  go_wp2_with fail
  go_loopw [7, 8] (fun mv i wr => ∃ k : Nat, k ≤ p ∧ i = .int .i64 k ∧ Prs wr mv (behindM l (row.take k)) ∧ Below w.heap.size w wr) (fun _ i _ => p - (intOf i).toNat)
  case atStart => exact ⟨0, Nat.zero_le _, rfl, ⟨_, 0, rfl, Nat.le_refl _, fun j q hj => by simp [behindM] at hj⟩, (Below.refl _ _).alloc (Nat.le_refl _) _⟩
  case round =>
    obtain ⟨k, hk, rfl, hpm, hB⟩ := hrel
    by_cases hlt : k < p
    · obtain ⟨a, ha⟩ : ∃ a, row[k]? = some a := ⟨_, List.getElem?_eq_getElem (by omega)⟩
      obtain ⟨b, z, rfl, hbl, hcell⟩ := HC'.out k a ha
      have hcell' := (hB.cell (p := ⟨b, z + k, none⟩) hbl).trans hcell
      have HSN := Lib.hid (behind_snoc (l := l) ha)
      have HSO := Lib.hid (sorted_behind l (row.take k) [] List.Pairwise.nil)
      have HLN := Lib.hid (show (behindM l (row.take k)).length ≤ k from Nat.le_trans (length_behind l (row.take k) [] List.Pairwise.nil) (by simp; omega))
      have HPM := Lib.hid hpm
      have HB := Lib.hid hB
      clear ha hcell hpm
      go_wp2_with fail
      refine (mapped_ref _ _ l a (HL.out.below HB.out) hn).mono ?_
      cases hm : mappedB l a with
      | false =>
        rintro e w1 ⟨rfl, hw1⟩
        subst hw1
        have HE := Lib.hid (show behindM l (row.take (k + 1)) = behindM l (row.take k) by rw [HSN.out]; unfold stepAt; rw [hm]; rfl)
        clear hm hB
        go_wp2_with fail
        exact ⟨⟨k + 1, by omega, by go_num, by rw [HE.out]; exact HPM.out, HB.out⟩, by show p - ((k : Int) + 1).toNat < p - (k : Int).toNat; omega⟩
      | true =>
        rintro e w1 ⟨rfl, hw1⟩
        subst hw1
        obtain ⟨n, q, rfl, hnl, hq⟩ := mapped_at hm
        obtain ⟨hpq, s1, s2, s3, s4, b2, z2, rfl, hbl2, hcell2⟩ := HC.out n q hq
        obtain ⟨Ap, cp, ep, _⟩ := id hpq
        rw [ep] at hcell2
        have k0 := (hB.cell (p := ⟨b2, z2 + n * 15, none⟩) hbl2).trans (show w.cell? ⟨b2, z2 + n * 15, none⟩ = some (.int .i64 q.1.thread) from (hcell2 0 _ rfl))
        have k1 := (hB.cell (p := ⟨b2, z2 + n * 15 + 1, none⟩) hbl2).trans (show w.cell? ⟨b2, z2 + n * 15 + 1, none⟩ = some (.int .i64 q.1.index) from (hcell2 1 _ rfl))
        have k2 := (hB.cell (p := ⟨b2, z2 + n * 15 + 2, none⟩) hbl2).trans (show w.cell? ⟨b2, z2 + n * 15 + 2, none⟩ = some (.int .i64 q.1.op.kind) from (hcell2 2 _ rfl))
        have k3 := (hB.cell (p := ⟨b2, z2 + n * 15 + 3, none⟩) hbl2).trans (show w.cell? ⟨b2, z2 + n * 15 + 3, none⟩ = some (.string q.1.op.key) from (hcell2 3 _ rfl))
        have k4 := (hB.cell (p := ⟨b2, z2 + n * 15 + 4, none⟩) hbl2).trans (show w.cell? ⟨b2, z2 + n * 15 + 4, none⟩ = some (.string q.1.op.value) from (hcell2 4 _ rfl))
        have k5 := (hB.cell (p := ⟨b2, z2 + n * 15 + 5, none⟩) hbl2).trans (show w.cell? ⟨b2, z2 + n * 15 + 5, none⟩ = some (.string q.1.op.old) from (hcell2 5 _ rfl))
        have k6 := (hB.cell (p := ⟨b2, z2 + n * 15 + 6, none⟩) hbl2).trans (show w.cell? ⟨b2, z2 + n * 15 + 6, none⟩ = some (.int .i64 q.1.begin_) from (hcell2 6 _ rfl))
        have k7 := (hB.cell (p := ⟨b2, z2 + n * 15 + 7, none⟩) hbl2).trans (show w.cell? ⟨b2, z2 + n * 15 + 7, none⟩ = some (.int .i64 q.1.end_) from (hcell2 7 _ rfl))
        have k8 := (hB.cell (p := ⟨b2, z2 + n * 15 + 8, none⟩) hbl2).trans (show w.cell? ⟨b2, z2 + n * 15 + 8, none⟩ = some (.bool q.1.done) from (hcell2 8 _ rfl))
        have k9 := (hB.cell (p := ⟨b2, z2 + n * 15 + 9, none⟩) hbl2).trans (show w.cell? ⟨b2, z2 + n * 15 + 9, none⟩ = some (.int .i64 q.1.reply.err) from (hcell2 9 _ rfl))
        have k10 := (hB.cell (p := ⟨b2, z2 + n * 15 + 10, none⟩) hbl2).trans (show w.cell? ⟨b2, z2 + n * 15 + 10, none⟩ = some (.bool q.1.reply.had) from (hcell2 10 _ rfl))
        have k11 := (hB.cell (p := ⟨b2, z2 + n * 15 + 11, none⟩) hbl2).trans (show w.cell? ⟨b2, z2 + n * 15 + 11, none⟩ = some (.bool q.1.reply.did) from (hcell2 11 _ rfl))
        have k12 := (hB.cell (p := ⟨b2, z2 + n * 15 + 12, none⟩) hbl2).trans (show w.cell? ⟨b2, z2 + n * 15 + 12, none⟩ = some (.string q.1.reply.value) from (hcell2 12 _ rfl))
        have k13 := (hB.cell (p := ⟨b2, z2 + n * 15 + 13, none⟩) hbl2).trans (show w.cell? ⟨b2, z2 + n * 15 + 13, none⟩ = some (.int .i64 q.1.reply.n) from (hcell2 13 _ rfl))
        have k14 := (hB.cell (p := ⟨b2, z2 + n * 15 + 14, none⟩) hbl2).trans (show w.cell? ⟨b2, z2 + n * 15 + 14, none⟩ = some (.slice Ap q.1.reply.pairs.length cp) from (hcell2 14 _ rfl))
        have HE := Lib.hid (show behindM l (row.take (k + 1)) = stepM (behindM l (row.take k)) q.1 by rw [HSN.out]; unfold stepAt; rw [hm, Int.toNat_natCast, hq]; rfl)
        have HZ := Lib.hid (And.intro s2 s3)
        have hsz := hB.size
        clear hm hq hpq hcell2 hB s1 s2 s3 s4 ep
        obtain ⟨cd, hd⟩ : ∃ cd, cd = q.1.done := ⟨_, rfl⟩
        obtain ⟨er, he⟩ : ∃ er, er = q.1.reply.err := ⟨_, rfl⟩
        rw [← hd] at k8
        rw [← he] at k9
        obtain ⟨W2, hW2⟩ : ∃ W, W = w1.alloc (.cells #[.int .i64 q.1.thread, .int .i64 q.1.index, .int .i64 q.1.op.kind, .string q.1.op.key, .string q.1.op.value, .string q.1.op.old, .int .i64 q.1.begin_, .int .i64 q.1.end_, .bool cd, .int .i64 er, .bool q.1.reply.had, .bool q.1.reply.did, .string q.1.reply.value, .int .i64 q.1.reply.n, .slice Ap q.1.reply.pairs.length cp] 44) := ⟨_, rfl⟩
        have hb2 : Below w1.heap.size w1 W2 := by rw [hW2]; exact (Below.refl _ _).alloc (Nat.le_refl _) _
        have HW2 := Lib.hid hW2
        have BB2 := Lib.hid hb2
        clear hb2 hW2
        have HDN := Lib.hid hd
        have HER := Lib.hid he
        clear hd he
        cases cd with
        | false =>
          have HD := Lib.hid (show stepM (behindM l (row.take k)) q.1 = doM (behindM l (row.take k)) ⟨q.1.op.kind, q.1.op.key, q.1.op.value, q.1.op.old⟩ by unfold stepM; rw [← HDN.out]; simp)
          go_wp2_with fail
          rw [← HW2.out]
          refine (do_ref W2 _ (behindM l (row.take k)) (HPM.out.below BB2.out) HSO.out (by have := HLN.out; omega) q.1.op.kind q.1.op.key q.1.op.value q.1.op.old HZ.out).mono ?_
          obtain ⟨r, hr⟩ : ∃ r, r = doR (behindM l (row.take k)) ⟨q.1.op.kind, q.1.op.key, q.1.op.value, q.1.op.old⟩ := ⟨_, rfl⟩
          rw [← hr]
          clear hr
          rintro e w3 ⟨v3, p3, rfl, hn3, _, hb3⟩
          have N3 := Lib.hid hn3
          have B3 := Lib.hid ((HB.out.trans (BB2.out.mono HB.out.size)).trans (hb3.mono (HB.out.trans (BB2.out.mono HB.out.size)).size))
          clear hn3 hb3
          dsimp only
          go_wp2_with fail
          exact ⟨⟨k + 1, by omega, by go_num, by rw [HE.out, HD.out]; exact N3.out, B3.out⟩, by show p - ((k : Int) + 1).toNat < p - (k : Int).toNat; omega⟩
        | true =>
          by_cases h10 : er = 10
          · subst h10
            have HD := Lib.hid (show stepM (behindM l (row.take k)) q.1 = behindM l (row.take k) by unfold stepM; rw [← HDN.out, ← HER.out]; simp)
            go_wp2_with fail
            rw [← HW2.out]
            exact ⟨⟨k + 1, by omega, by go_num, by rw [HE.out, HD.out]; exact HPM.out.below BB2.out, HB.out.trans (BB2.out.mono HB.out.size)⟩, by show p - ((k : Int) + 1).toNat < p - (k : Int).toNat; omega⟩
          · have hb10 : (er == 10) = false := by rw [beq_eq_false_iff_ne]; exact h10
            have H10 := Lib.hid h10
            clear h10
            have HD := Lib.hid (show stepM (behindM l (row.take k)) q.1 = doM (behindM l (row.take k)) ⟨q.1.op.kind, q.1.op.key, q.1.op.value, q.1.op.old⟩ by unfold stepM; rw [← HDN.out, ← HER.out, decide_eq_false H10.out]; simp)
            go_wp2_with fail
            rw [← HW2.out]
            refine (do_ref W2 _ (behindM l (row.take k)) (HPM.out.below BB2.out) HSO.out (by have := HLN.out; omega) q.1.op.kind q.1.op.key q.1.op.value q.1.op.old HZ.out).mono ?_
            obtain ⟨r, hr⟩ : ∃ r, r = doR (behindM l (row.take k)) ⟨q.1.op.kind, q.1.op.key, q.1.op.value, q.1.op.old⟩ := ⟨_, rfl⟩
            rw [← hr]
            clear hr
            rintro e w3 ⟨v3, p3, rfl, hn3, _, hb3⟩
            have N3 := Lib.hid hn3
            have B3 := Lib.hid ((HB.out.trans (BB2.out.mono HB.out.size)).trans (hb3.mono (HB.out.trans (BB2.out.mono HB.out.size)).size))
            clear hn3 hb3
            dsimp only
            go_wp2_with fail
            exact ⟨⟨k + 1, by omega, by go_num, by rw [HE.out, HD.out]; exact N3.out, B3.out⟩, by show p - ((k : Int) + 1).toNat < p - (k : Int).toNat; omega⟩
    · have hkk : k = p := by omega
      subst hkk
      have HPM := Lib.hid hpm
      have HB := Lib.hid hB
      clear hpm hB
      go_wp2_with fail
      go_ret
      exact ⟨_, rfl, HPM.out, HB.out⟩
end Go.Proofs.YtdhgacionopghaaGreatDoor.Od
