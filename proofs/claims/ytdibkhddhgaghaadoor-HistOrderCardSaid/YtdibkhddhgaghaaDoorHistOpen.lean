/- A slice of calls among a law's arguments, opened to its cells. -/
import Derived.Test.YtdibkhddhgaghaaDoorHistBase
import Derived.Test.YtdibkhddhgaghaaDoorHistPrintP
import Derived.Test.YtdibkhddhgaghaaDoorOpenGen
namespace Go.Proofs.YtdibkhddhgaghaaDoor.Hs
open Go.ChangeShapes Go.WideShapes Go.Deep Go.RowKit
set_option linter.unusedVariables false
set_option linter.unusedSimpArgs false
theorem rng_wf {z : Int} (h : (Lit.int .i64 z).wf = true) : rng z := by
  simp [Lit.wf, IntKind.min, IntKind.max, IntKind.signed, IntKind.bits] at h
  unfold rng
  omega
/-- What a call among the arguments may be. -/
structure OpenOk (q : CV) : Prop where
  few : q.1.reply.pairs.length ≤ maxLen
  ints : rng q.1.thread ∧ rng q.1.index ∧ rng q.1.op.kind ∧ rng q.1.begin_ ∧ rng q.1.end_ ∧ rng q.1.reply.err ∧ rng q.1.reply.n
  texts : q.1.op.key.size ≤ maxLen ∧ q.1.op.value.size ≤ maxLen ∧ q.1.op.old.size ≤ maxLen ∧ q.1.reply.value.size ≤ maxLen
  pairs : ∀ p ∈ q.1.reply.pairs, p.1.size ≤ maxLen ∧ p.2.size ≤ maxLen
section
variable {H : Type} {enc : TypeId × Value → H} {W : World} {base : Nat} {spare : Nat → Bool} {held : Bool}
theorem open_prs {fuel : Nat} {v : Value} {y : DataW H × List MemPlace} (h : DataW.trod enc Tryd.prog W base spare held fuel 46 [v] = some y) :
    ∃ l : List Pr, Prs W v l ∧ l.length ≤ maxLen ∧ ∀ p ∈ l, p.1.size ≤ maxLen ∧ p.2.size ≤ maxLen := by
  have ks : Tryd.prog.cellsOf 9 = 1 := by kernel_rfl
  obtain ⟨A, len, cap, rfl, hlc, hcm, _, hx⟩ := Og.open_rows_of (C := 2) Tryd.underlying46 (by kernel_rfl) (by decide) h
  obtain ⟨l, hl, hp⟩ := Og.list_of (p := fun j (q : Pr) => (∃ b o, A = some ⟨b, o, none⟩ ∧ b < W.heap.size ∧ W.cell? ⟨b, o + j * 2, none⟩ = some (.string q.1) ∧ W.cell? ⟨b, o + j * 2 + 1, none⟩ = some (.string q.2)) ∧ q.1.size ≤ maxLen ∧ q.2.size ≤ maxLen) (len := len) (fun i hi => by
    obtain ⟨b, o, cs, n, y, hA, hcl, hcell, ht⟩ := hx i hi
    obtain ⟨c0, c1, rfl⟩ : ∃ c0 c1 : Value, cs = [c0, c1] := by
      match cs, hcl with
      | [c0, c1], _ => exact ⟨_, _, rfl⟩
    obtain ⟨ys, n', _, _, _, hyl, hf⟩ := DataW.trod_struct Tryd.underlying95 ht
    have f0 : DataW.trod enc Tryd.prog W base spare held n' 9 (([c0, c1].drop 0).take (Tryd.prog.cellsOf 9)) = ys[0]? := hf 0 _ rfl
    rw [ks, List.getElem?_eq_getElem (by rw [hyl]; decide)] at f0
    have f1 : DataW.trod enc Tryd.prog W base spare held n' 9 (([c0, c1].drop 1).take (Tryd.prog.cellsOf 9)) = ys[1]? := hf 1 _ rfl
    rw [ks, List.getElem?_eq_getElem (by rw [hyl]; decide)] at f1
    obtain ⟨x0, rfl, s0⟩ := Og.cell_str Tryd.underlying9 f0
    obtain ⟨x1, rfl, s1⟩ := Og.cell_str Tryd.underlying9 f1
    exact ⟨(x0, x1), ⟨b, o, hA, World.block_lt_of_cell? W _ (hcell 0 _ rfl), hcell 0 _ rfl, hcell 1 _ rfl⟩, s0, s1⟩)
  subst hl
  exact ⟨l, ⟨A, cap, rfl, hlc, fun j p hj => (hp j p hj).1⟩, Nat.le_trans hlc hcm, fun p hm => by
    obtain ⟨j, hj⟩ := List.mem_iff_getElem?.1 hm
    exact (hp j p hj).2⟩
end
set_option maxRecDepth 100000 in
set_option maxHeartbeats 4000000 in
theorem open_calls {H : Type} {enc : TypeId × Value → H} {W : World} {base : Nat} {spare : Nat → Bool} {held : Bool} {r : Reach} {b0 : Nat} {v : Value} {d : DataW H} {ps : List MemPlace} (hval : Value.okWide Tryd.prog W r b0 34 v)
    (h : DataW.Trod enc Tryd.prog W base spare held 34 v d ps) : ∃ l : List CV, Cls W v l ∧ (l.length ≤ maxLen ∧ ∀ q ∈ l, OpenOk q) := by
  have hu := Tryd.underlying50
  have huo := Tryd.underlying45
  have hur := Tryd.underlying48
  have ki : Tryd.prog.cellsOf 3 = 1 := by kernel_rfl
  have ks : Tryd.prog.cellsOf 9 = 1 := by kernel_rfl
  have kb : Tryd.prog.cellsOf 4 = 1 := by kernel_rfl
  have ke : Tryd.prog.cellsOf 26 = 1 := by kernel_rfl
  have kp : Tryd.prog.cellsOf 46 = 1 := by kernel_rfl
  have ko : Tryd.prog.cellsOf 45 = 4 := by kernel_rfl
  have kr : Tryd.prog.cellsOf 48 = 6 := by kernel_rfl
  obtain ⟨A0, len0, cap0, rfl⟩ := Go.WideShapes.okWide_slice Tryd.underlying34 hval
  obtain ⟨fuel, h⟩ := h
  obtain ⟨A, len, cap, e, hlc, hcm, hnone, hx⟩ := Og.open_rows_of (C := 15) (v := .slice A0 len0 cap0) Tryd.underlying34 (by kernel_rfl) (by decide) h
  rw [e]
  obtain ⟨l, hl, hp⟩ := Og.list_of (p := fun j (q : CV) => (Prs W q.2 q.1.reply.pairs ∧ ∃ b z, A = some ⟨b, z, none⟩ ∧ b < W.heap.size ∧ ∀ k u, (callC q.1 q.2)[k]? = some u → W.cell? ⟨b, z + j * 15 + k, none⟩ = some u) ∧ OpenOk q) (len := len) (fun i hi => by
    obtain ⟨b, o, cs, n, y, hA, hcl, hcell, ht⟩ := hx i hi
    obtain ⟨c0, c1, c2, c3, c4, c5, c6, c7, c8, c9, c10, c11, c12, c13, c14, rfl⟩ : ∃ c0 c1 c2 c3 c4 c5 c6 c7 c8 c9 c10 c11 c12 c13 c14 : Value, cs = [c0, c1, c2, c3, c4, c5, c6, c7, c8, c9, c10, c11, c12, c13, c14] := by
      match cs, hcl with
      | [c0, c1, c2, c3, c4, c5, c6, c7, c8, c9, c10, c11, c12, c13, c14], _ => exact ⟨_, _, _, _, _, _, _, _, _, _, _, _, _, _, _, rfl⟩
    obtain ⟨ys, n', _, _, _, hyl, hf⟩ := DataW.trod_struct hu ht
    have f0 : DataW.trod enc Tryd.prog W base spare held n' 3 (([c0, c1, c2, c3, c4, c5, c6, c7, c8, c9, c10, c11, c12, c13, c14].drop 0).take (Tryd.prog.cellsOf 3)) = ys[0]? := hf 0 _ rfl
    rw [ki, List.getElem?_eq_getElem (by rw [hyl]; decide)] at f0
    simp only [List.drop_zero, List.drop_succ_cons, List.take_succ_cons, List.take_zero] at f0
    have f1 : DataW.trod enc Tryd.prog W base spare held n' 3 (([c0, c1, c2, c3, c4, c5, c6, c7, c8, c9, c10, c11, c12, c13, c14].drop 1).take (Tryd.prog.cellsOf 3)) = ys[1]? := hf 1 _ rfl
    rw [ki, List.getElem?_eq_getElem (by rw [hyl]; decide)] at f1
    simp only [List.drop_zero, List.drop_succ_cons, List.take_succ_cons, List.take_zero] at f1
    have f2 : DataW.trod enc Tryd.prog W base spare held n' 45 (([c0, c1, c2, c3, c4, c5, c6, c7, c8, c9, c10, c11, c12, c13, c14].drop 2).take (Tryd.prog.cellsOf 45)) = ys[2]? := hf 2 _ rfl
    rw [ko, List.getElem?_eq_getElem (by rw [hyl]; decide)] at f2
    simp only [List.drop_zero, List.drop_succ_cons, List.take_succ_cons, List.take_zero] at f2
    have f3 : DataW.trod enc Tryd.prog W base spare held n' 3 (([c0, c1, c2, c3, c4, c5, c6, c7, c8, c9, c10, c11, c12, c13, c14].drop 6).take (Tryd.prog.cellsOf 3)) = ys[3]? := hf 3 _ rfl
    rw [ki, List.getElem?_eq_getElem (by rw [hyl]; decide)] at f3
    simp only [List.drop_zero, List.drop_succ_cons, List.take_succ_cons, List.take_zero] at f3
    have f4 : DataW.trod enc Tryd.prog W base spare held n' 3 (([c0, c1, c2, c3, c4, c5, c6, c7, c8, c9, c10, c11, c12, c13, c14].drop 7).take (Tryd.prog.cellsOf 3)) = ys[4]? := hf 4 _ rfl
    rw [ki, List.getElem?_eq_getElem (by rw [hyl]; decide)] at f4
    simp only [List.drop_zero, List.drop_succ_cons, List.take_succ_cons, List.take_zero] at f4
    have f5 : DataW.trod enc Tryd.prog W base spare held n' 4 (([c0, c1, c2, c3, c4, c5, c6, c7, c8, c9, c10, c11, c12, c13, c14].drop 8).take (Tryd.prog.cellsOf 4)) = ys[5]? := hf 5 _ rfl
    rw [kb, List.getElem?_eq_getElem (by rw [hyl]; decide)] at f5
    simp only [List.drop_zero, List.drop_succ_cons, List.take_succ_cons, List.take_zero] at f5
    have f6 : DataW.trod enc Tryd.prog W base spare held n' 48 (([c0, c1, c2, c3, c4, c5, c6, c7, c8, c9, c10, c11, c12, c13, c14].drop 9).take (Tryd.prog.cellsOf 48)) = ys[6]? := hf 6 _ rfl
    rw [kr, List.getElem?_eq_getElem (by rw [hyl]; decide)] at f6
    simp only [List.drop_zero, List.drop_succ_cons, List.take_succ_cons, List.take_zero] at f6
    obtain ⟨os, n2, _, _, _, hol, ho⟩ := DataW.trod_struct huo f2
    have o0 : DataW.trod enc Tryd.prog W base spare held n2 3 (([c2, c3, c4, c5].drop 0).take (Tryd.prog.cellsOf 3)) = os[0]? := ho 0 _ rfl
    rw [ki, List.getElem?_eq_getElem (by rw [hol]; decide)] at o0
    simp only [List.drop_zero, List.drop_succ_cons, List.take_succ_cons, List.take_zero] at o0
    have o1 : DataW.trod enc Tryd.prog W base spare held n2 9 (([c2, c3, c4, c5].drop 1).take (Tryd.prog.cellsOf 9)) = os[1]? := ho 1 _ rfl
    rw [ks, List.getElem?_eq_getElem (by rw [hol]; decide)] at o1
    simp only [List.drop_zero, List.drop_succ_cons, List.take_succ_cons, List.take_zero] at o1
    have o2 : DataW.trod enc Tryd.prog W base spare held n2 9 (([c2, c3, c4, c5].drop 2).take (Tryd.prog.cellsOf 9)) = os[2]? := ho 2 _ rfl
    rw [ks, List.getElem?_eq_getElem (by rw [hol]; decide)] at o2
    simp only [List.drop_zero, List.drop_succ_cons, List.take_succ_cons, List.take_zero] at o2
    have o3 : DataW.trod enc Tryd.prog W base spare held n2 9 (([c2, c3, c4, c5].drop 3).take (Tryd.prog.cellsOf 9)) = os[3]? := ho 3 _ rfl
    rw [ks, List.getElem?_eq_getElem (by rw [hol]; decide)] at o3
    simp only [List.drop_zero, List.drop_succ_cons, List.take_succ_cons, List.take_zero] at o3
    obtain ⟨rs, n3, _, _, _, hrl, hr⟩ := DataW.trod_struct hur f6
    have r0 : DataW.trod enc Tryd.prog W base spare held n3 26 (([c9, c10, c11, c12, c13, c14].drop 0).take (Tryd.prog.cellsOf 26)) = rs[0]? := hr 0 _ rfl
    rw [ke, List.getElem?_eq_getElem (by rw [hrl]; decide)] at r0
    simp only [List.drop_zero, List.drop_succ_cons, List.take_succ_cons, List.take_zero] at r0
    have r1 : DataW.trod enc Tryd.prog W base spare held n3 4 (([c9, c10, c11, c12, c13, c14].drop 1).take (Tryd.prog.cellsOf 4)) = rs[1]? := hr 1 _ rfl
    rw [kb, List.getElem?_eq_getElem (by rw [hrl]; decide)] at r1
    simp only [List.drop_zero, List.drop_succ_cons, List.take_succ_cons, List.take_zero] at r1
    have r2 : DataW.trod enc Tryd.prog W base spare held n3 4 (([c9, c10, c11, c12, c13, c14].drop 2).take (Tryd.prog.cellsOf 4)) = rs[2]? := hr 2 _ rfl
    rw [kb, List.getElem?_eq_getElem (by rw [hrl]; decide)] at r2
    simp only [List.drop_zero, List.drop_succ_cons, List.take_succ_cons, List.take_zero] at r2
    have r3 : DataW.trod enc Tryd.prog W base spare held n3 9 (([c9, c10, c11, c12, c13, c14].drop 3).take (Tryd.prog.cellsOf 9)) = rs[3]? := hr 3 _ rfl
    rw [ks, List.getElem?_eq_getElem (by rw [hrl]; decide)] at r3
    simp only [List.drop_zero, List.drop_succ_cons, List.take_succ_cons, List.take_zero] at r3
    have r4 : DataW.trod enc Tryd.prog W base spare held n3 3 (([c9, c10, c11, c12, c13, c14].drop 4).take (Tryd.prog.cellsOf 3)) = rs[4]? := hr 4 _ rfl
    rw [ki, List.getElem?_eq_getElem (by rw [hrl]; decide)] at r4
    simp only [List.drop_zero, List.drop_succ_cons, List.take_succ_cons, List.take_zero] at r4
    have r5 : DataW.trod enc Tryd.prog W base spare held n3 46 (([c9, c10, c11, c12, c13, c14].drop 5).take (Tryd.prog.cellsOf 46)) = rs[5]? := hr 5 _ rfl
    rw [kp, List.getElem?_eq_getElem (by rw [hrl]; decide)] at r5
    simp only [List.drop_zero, List.drop_succ_cons, List.take_succ_cons, List.take_zero] at r5
    obtain ⟨x0, rfl, w0⟩ := Og.cell_int Tryd.underlying3 f0
    obtain ⟨x1, rfl, w1⟩ := Og.cell_int Tryd.underlying3 f1
    obtain ⟨x2, rfl, w2⟩ := Og.cell_int Tryd.underlying3 o0
    obtain ⟨x3, rfl, w3⟩ := Og.cell_str Tryd.underlying9 o1
    obtain ⟨x4, rfl, w4⟩ := Og.cell_str Tryd.underlying9 o2
    obtain ⟨x5, rfl, w5⟩ := Og.cell_str Tryd.underlying9 o3
    obtain ⟨x6, rfl, w6⟩ := Og.cell_int Tryd.underlying3 f3
    obtain ⟨x7, rfl, w7⟩ := Og.cell_int Tryd.underlying3 f4
    obtain ⟨x8, rfl⟩ := Og.cell_bool Tryd.underlying4 f5
    obtain ⟨x9, rfl, w9⟩ := Og.cell_int Tryd.underlying26 r0
    obtain ⟨x10, rfl⟩ := Og.cell_bool Tryd.underlying4 r1
    obtain ⟨x11, rfl⟩ := Og.cell_bool Tryd.underlying4 r2
    obtain ⟨x12, rfl, w12⟩ := Og.cell_str Tryd.underlying9 r3
    obtain ⟨x13, rfl, w13⟩ := Og.cell_int Tryd.underlying3 r4
    obtain ⟨pl, hpl, hpn, hps⟩ := open_prs r5
    exact ⟨(⟨x0, x1, ⟨x2, x3, x4, x5⟩, x6, x7, x8, ⟨x9, x10, x11, x12, x13, pl⟩⟩, c14), ⟨hpl, b, o, hA, World.block_lt_of_cell? W _ (hcell 0 _ rfl), fun k u hk => hcell k u (by
      have := hk
      rw [← Array.getElem?_toList] at this
      exact this)⟩, ⟨hpn, ⟨rng_wf w0, rng_wf w1, rng_wf w2, rng_wf w6, rng_wf w7, rng_wf w9, rng_wf w13⟩, ⟨w3, w4, w5, w12⟩, hps⟩⟩)
  subst hl
  exact ⟨l, ⟨A, cap, rfl, hlc, fun j q hj => (hp j q hj).1⟩, Nat.le_trans hlc hcm, fun q hm => by
    obtain ⟨j, hj⟩ := List.mem_iff_getElem?.1 hm
    exact (hp j q hj).2⟩
end Go.Proofs.YtdibkhddhgaghaaDoor.Hs
